/-
  GuildDoes, walked: a guild does as the document says.
-/
import Derived.Test.YtfihmpkkpgmdhacChapM
import Derived.Test.YtfihmpkkpgmdhacGuildV
import Derived.Test.YtfihmpkkpgmdhacLexW
import Derived.Test.YtfihmpkkpgmdhacPltV
import Derived.Test.YtfihmpkkpgmdhacBoardD
namespace Go.Proofs.Ytfihmpkkpgmdhac
set_option linter.unusedSimpArgs false
set_option linter.unusedVariables false
set_option linter.unnecessarySimpa false
open Go.RowKit
set_option maxRecDepth 100000 in
set_option maxHeartbeats 8000000 in
theorem guildDoes_any (v : Value) (L : List Stp) (w : World) (hv : (∀ r ∈ L, ∀ n ∈ r.ints, I64' n) ∧ RowAt w v L.length (svs L)) :
    Calls Try.prog 6 #[v] w fun e w' => e = .returned (.bool true) ∧ Below w.heap.size w w' := by
  obtain ⟨a, cc, rfl, c1, c2⟩ := hv.2.shape
  have HV := Lib.hid hv.2; clear hv
  go_enter Try.func6, Try.ntmps6
  go_wp2_with fail
  refine (guildBegun_any _).mono ?_
  rintro e w1 ⟨rfl, hb1⟩
  have H1 := Lib.hid ((Holds.old (w := w)).below hb1)
  have Q1 := Lib.hid (Quiet.below hb1); clear hb1
  by_cases hlen : 300 < L.length
  · go_wp2
    go_ret
    exact ⟨rfl, H1.out.toBelow' Q1.out⟩
  · go_wp2_with fail
    refine (gNew_sl _ H1.out).mono ?_
    rintro e w2 ⟨bg, rfl, q2, h2⟩
    have H2 := Lib.hid (chp_new ((show Holds w2 (gld bg Gld.zero * old w) from h2).boxB (ty := 69) (cs := [.int .i64 0, .slice none 0 0, .pointer none, .pointer none, .pointer none, .int .i64 0]) rfl))
    have Q2 := Lib.hid ((Q1.out.trans q2).alloc (.cells #[.int .i64 0, .slice none 0 0, .pointer none, .pointer none, .pointer none, .int .i64 0] 69)); clear h2 q2 H1 Q1
    go_wp2_with fail
    go_loopw [5] (fun i wr => ∃ (k : Nat) (g : Gld), k ≤ L.length ∧ i = .int .i64 k ∧ Holds wr (chp w2.heap.size g * (gld bg g * old w)) ∧ Quiet w wr ∧ g.Good) (fun i _ => L.length - (intOf i).toNat)
    case atStart => exact ⟨0, Gld.zero, by omega, rfl, H2.out, Q2.out, good_zero⟩
    case round =>
      obtain ⟨k, g, hk, rfl, hh, hq, hok⟩ := hrel
      obtain ⟨wo, rfl⟩ : ∃ wo : World, wo = wr := ⟨_, rfl⟩
      obtain ⟨b, hb⟩ : ∃ b, w2.heap.size = b := ⟨_, rfl⟩
      try rw [hb] at hh
      try rw [hb]
      have HB := Lib.hid hb
      have HH := Lib.hid hh; have HQ := Lib.hid hq; have HOK := Lib.hid hok; clear hh hq hok H2 Q2 hb
      by_cases hlt : k < L.length
      · obtain ⟨o, ho⟩ : ∃ o, L[k]? = some o := ⟨_, List.getElem?_eq_getElem hlt⟩
        obtain ⟨ga, off, c', e, _, _, hc0⟩ := HV.out.get (by omega)
        simp only [Value.slice.injEq] at e
        obtain ⟨rfl, _, rfl⟩ := e
        obtain ⟨kd, x, kp, ⟨c, nw, j, r, q, m⟩⟩ := o
        have mkS : ∀ (W : World) (A : HP), Holds W (A * old w) → W.cell? ⟨ga, off + k * 9, none⟩ = some (.int .i64 kd) ∧ W.cell? ⟨ga, off + k * 9 + 1, none⟩ = some (.int .i64 x) ∧ W.cell? ⟨ga, off + k * 9 + 2, none⟩ = some (.int .i64 kp) ∧ W.cell? ⟨ga, off + k * 9 + 3, none⟩ = some (.int .i64 c) ∧ W.cell? ⟨ga, off + k * 9 + 4, none⟩ = some (.int .i64 nw) ∧ W.cell? ⟨ga, off + k * 9 + 5, none⟩ = some (.int .i64 j) ∧ W.cell? ⟨ga, off + k * 9 + 6, none⟩ = some (.int .i64 r) ∧ W.cell? ⟨ga, off + k * 9 + 7, none⟩ = some (.int .i64 q) ∧ W.cell? ⟨ga, off + k * 9 + 8, none⟩ = some (.int .i64 m) := by
          intro W A hW
          exact stp_cells HV.out ho hW
        have MKS := Lib.hid mkS
        obtain ⟨⟨g', A⟩, hX⟩ : ∃ X, g.step ⟨kd, x, kp, ⟨c, nw, j, r, q, m⟩⟩ = X := ⟨_, rfl⟩
        have HX := Lib.hid hX
        have HOK' := Lib.hid (show g'.Good by have := good_step HOK.out ⟨kd, x, kp, ⟨c, nw, j, r, q, m⟩⟩; rwa [hX] at this)
        have S0 := Lib.hid (mkS wo.drew _ (HH.out.drew.eq (HP.assoc _ _ _).symm))
        obtain ⟨ans, hans⟩ : ∃ ans, A.val = ans := ⟨_, rfl⟩
        clear ho hc0 mkS hX
        go_wp2_with fail
        refine wp_region_lexW (fun W => W.cell? ⟨ga, off + k * 9, none⟩ = some (.int .i64 kd) ∧ W.cell? ⟨ga, off + k * 9 + 1, none⟩ = some (.int .i64 x) ∧ W.cell? ⟨ga, off + k * 9 + 2, none⟩ = some (.int .i64 kp) ∧ W.cell? ⟨ga, off + k * 9 + 3, none⟩ = some (.int .i64 c) ∧ W.cell? ⟨ga, off + k * 9 + 4, none⟩ = some (.int .i64 nw) ∧ W.cell? ⟨ga, off + k * 9 + 5, none⟩ = some (.int .i64 j) ∧ W.cell? ⟨ga, off + k * 9 + 6, none⟩ = some (.int .i64 r) ∧ W.cell? ⟨ga, off + k * 9 + 7, none⟩ = some (.int .i64 q) ∧ W.cell? ⟨ga, off + k * 9 + 8, none⟩ = some (.int .i64 m)) 11 [5, 11, 13, 15, 22, 27, 35, 40, 41] (by kernel_rfl) (by kernel_rfl) (by kernel_rfl) S0.out ?_
        repeat (first | (refine LexWL.none (by decide) (by rfl) ?_; (try simp only [Act.put, List.setIfInBounds_toArray, List.set_cons_zero, List.set_cons_succ])) | (refine LexWL.still (v := ?_) (by decide) (by rfl) ?_ ?_; rotate_left; (focus (intro W hW; (try dsimp only at hW); go_simp; (try (with_reducible rfl)); done)); (try simp only [Act.put, List.setIfInBounds_toArray, List.set_cons_zero, List.set_cons_succ])))
        refine LexWL.call (f := 11) (args := #[.pointer (some ⟨bg, 0, none⟩), .agg #[.int .i64 kd, .int .i64 x, .int .i64 kp, .int .i64 c, .int .i64 nw, .int .i64 j, .int .i64 r, .int .i64 q, .int .i64 m]]) (w1 := wo.drew) (by decide) (by rfl) (by decide) (by go_simp) ?_
        refine (gstep_sl bg g kd x kp c nw j r q m _ HH.out.drew.two HOK.out).mono ?_
        rw [HX.out]
        rintro e w3 ⟨rfl, q3, h3⟩
        obtain ⟨a0, a1, a2⟩ := A
        simp only [Ans.val]
        have H3 := Lib.hid (show Holds w3 (gld bg g' * (chp b g * old w)) from h3); have Q3 := Lib.hid (HQ.out.drew.trans q3)
        clear h3 q3
        refine ⟨_, rfl, MKS.out _ _ (H3.out.eq (HP.assoc _ _ _).symm), ?_⟩
        try simp only [Act.put, List.setIfInBounds_toArray, List.set_cons_zero, List.set_cons_succ]
        repeat (first | (refine LexWL.none (by decide) (by rfl) ?_; (try simp only [Act.put, List.setIfInBounds_toArray, List.set_cons_zero, List.set_cons_succ])) | (refine LexWL.still (v := ?_) (by decide) (by rfl) ?_ ?_; rotate_left; (focus (intro W hW; (try dsimp only at hW); go_simp; (try (with_reducible rfl)); done)); (try simp only [Act.put, List.setIfInBounds_toArray, List.set_cons_zero, List.set_cons_succ])))
        refine LexWL.switch (f := 24) (args := #[.pointer (some ⟨b, 0, none⟩), .agg #[.int .i64 kd, .int .i64 x, .int .i64 kp, .int .i64 c, .int .i64 nw, .int .i64 j, .int .i64 r, .int .i64 q, .int .i64 m]]) (w1 := w3) (by decide) (by rfl) (by go_simp) ?_
        refine (chstep_sl b g kd x kp c nw j r q m _ H3.out.two HOK.out).mono ?_
        rw [HX.out]
        rintro e w4 ⟨rfl, q4, h4⟩
        simp only [Ans.val]
        have Q4 := Lib.hid (Q3.out.trans q4)
        obtain ⟨us, h5⟩ := chp_open (show Holds w4 (chp b g' * (gld bg g' * old w)) from h4)
        obtain ⟨bd, vs, h6⟩ := gld_open (h5.eq (by ac_rfl : _ = gld bg g' * (cst b us g'.d g'.now * (vergs3 b us g'.f * old w))))
        obtain ⟨vB, h7⟩ := plw_open (h6.eq (by ac_rfl : _ = cst b us g'.d g'.now * (gblk bg bd vs g'.now * (dsk bd g'.d * (nodes3 bd vs g'.f * (vergs3 b us g'.f * old w))))))
        obtain ⟨-, hvs⟩ := plw_bl h7
        obtain ⟨aB, cB, rfl, _, _⟩ := hvs.shape
        obtain ⟨sb, hsb⟩ : ∃ sb, strOf g'.d.b = sb := ⟨_, rfl⟩
        have HSB := Lib.hid hsb
        obtain ⟨R9, hR9⟩ : ∃ R9, nodes3 bd vs g'.f * (vergs3 b us g'.f * old w) = R9 := ⟨_, rfl⟩
        have HR9 := Lib.hid hR9
        obtain ⟨lB, hlB⟩ : ∃ lB, g'.d.b.length = lB := ⟨_, rfl⟩
        rw [hlB] at h7 hvs
        rw [hR9] at h7
        have H7 := Lib.hid (show Holds w4 (pltw (.slice aB lB cB) b 69 (chc us g'.now) g'.d * (gblk bg bd vs g'.now * (dsk bd g'.d * R9))) from h7)
        have mkT : ∀ (W : World) (A : HP), Holds W (pltw (.slice aB lB cB) b 69 (chc us g'.now) g'.d * (gblk bg bd vs g'.now * A)) → W.cell? ⟨b, 5, none⟩ = some (.int .i64 g'.now) ∧ W.cell? ⟨b, 0, none⟩ = some (.int .i64 g'.d.ep) ∧ W.cell? ⟨b, 1, none⟩ = some (.slice aB lB cB) ∧ W.cell? ⟨bg, 0, none⟩ = some (.pointer (some ⟨bd, 0, none⟩)) ∧ (convert 43 9 (.slice aB lB cB)).run Try.prog W = .ok (.string sb) W := by
          intro W A hW
          obtain ⟨hb, hs⟩ := plw_bl hW
          exact ⟨hb.cell 5 _ rfl, hb.cell 0 _ rfl, hb.cell 1 _ rfl, (show BlockAt W bg 49 (gcells bd vs g'.now) from hW.right.bl).cell 0 _ rfl, by rw [← HSB.out]; exact run_string_bytes hs⟩
        have MKT := Lib.hid mkT
        clear h4 q4 h5 h6 h7 hvs mkT hsb hR9 hlB H3 Q3 MKS S0
        refine ⟨_, rfl, fun W => W.cell? ⟨b, 5, none⟩ = some (.int .i64 g'.now) ∧ W.cell? ⟨b, 0, none⟩ = some (.int .i64 g'.d.ep) ∧ W.cell? ⟨b, 1, none⟩ = some (.slice aB lB cB) ∧ W.cell? ⟨bg, 0, none⟩ = some (.pointer (some ⟨bd, 0, none⟩)) ∧ (convert 43 9 (.slice aB lB cB)).run Try.prog W = .ok (.string sb) W, MKT.out _ _ H7.out, ?_⟩
        try simp only [Act.put, List.setIfInBounds_toArray, List.set_cons_zero, List.set_cons_succ]
        repeat (first | (refine LexL.none (by rfl) ?_; (try simp only [Act.put, List.setIfInBounds_toArray, List.set_cons_zero, List.set_cons_succ])) | (refine LexL.still (v := ?_) (by rfl) ?_ ?_; rotate_left; (focus (intro W hW; (try dsimp only at hW); go_simp; (try (with_reducible rfl)); done)); (try simp only [Act.put, List.setIfInBounds_toArray, List.set_cons_zero, List.set_cons_succ])))
        refine LexL.call (f := 14) (args := #[.pointer (some ⟨bg, 0, none⟩)]) (w1 := w4) (by rfl) (by decide) (by go_simp) ?_
        refine (gNow_sl bg bd vs g'.now _ H7.out.two).mono ?_
        rintro e w5 ⟨rfl, rfl⟩
        refine ⟨_, rfl, MKT.out _ _ H7.out, ?_⟩
        try simp only [Act.put, List.setIfInBounds_toArray, List.set_cons_zero, List.set_cons_succ]
        repeat (first | (refine LexL.none (by rfl) ?_; (try simp only [Act.put, List.setIfInBounds_toArray, List.set_cons_zero, List.set_cons_succ])) | (refine LexL.still (v := ?_) (by rfl) ?_ ?_; rotate_left; (focus (intro W hW; (try dsimp only at hW); go_simp; (try (with_reducible rfl)); done)); (try simp only [Act.put, List.setIfInBounds_toArray, List.set_cons_zero, List.set_cons_succ])))
        refine LexL.call (f := 19) (args := #[.pointer (some ⟨bd, 0, none⟩)]) (w1 := w4) (by rfl) (by decide) (by go_simp) ?_
        refine (depoch_sl bd g'.d _ H7.out.three).mono ?_
        rintro e w5 ⟨rfl, rfl⟩
        refine ⟨_, rfl, MKT.out _ _ H7.out, ?_⟩
        try simp only [Act.put, List.setIfInBounds_toArray, List.set_cons_zero, List.set_cons_succ]
        repeat (first | (refine LexL.none (by rfl) ?_; (try simp only [Act.put, List.setIfInBounds_toArray, List.set_cons_zero, List.set_cons_succ])) | (refine LexL.still (v := ?_) (by rfl) ?_ ?_; rotate_left; (focus (intro W hW; (try dsimp only at hW); go_simp; (try (with_reducible rfl)); done)); (try simp only [Act.put, List.setIfInBounds_toArray, List.set_cons_zero, List.set_cons_succ])))
        refine LexL.call (f := 13) (args := #[.pointer (some ⟨bd, 0, none⟩)]) (w1 := w4) (by rfl) (by decide) (by go_simp) ?_
        refine (bytes_sl bd g'.d _ H7.out.three (by obtain ⟨l, h⟩ := HOK'.out; exact h.fam.ok)).mono ?_
        rintro e w5 ⟨vb, rfl, q5, h5⟩
        have H8 := Lib.hid ((show Holds w5 (ownb vb g'.d.b * (dsk bd g'.d * (pltw (.slice aB lB cB) b 69 (chc us g'.now) g'.d * (gblk bg bd vs g'.now * R9)))) from h5).eq (by ac_rfl : _ = pltw (.slice aB lB cB) b 69 (chc us g'.now) g'.d * (gblk bg bd vs g'.now * (dsk bd g'.d * (R9 * ownb vb g'.d.b)))))
        have Q8 := Lib.hid (Q4.out.trans q5)
        have hs2 := run_string_bytes h5.ownb.bytes
        rw [HSB.out] at hs2
        clear h5 q5
        refine ⟨_, rfl, MKT.out _ _ H8.out, ?_⟩
        try simp only [Act.put, List.setIfInBounds_toArray, List.set_cons_zero, List.set_cons_succ]
        repeat (first | (refine LexL.none (by rfl) ?_; (try simp only [Act.put, List.setIfInBounds_toArray, List.set_cons_zero, List.set_cons_succ])) | (refine LexL.still (v := ?_) (by rfl) ?_ ?_; rotate_left; (focus (intro W hW; (try dsimp only at hW); go_simp; (try (with_reducible rfl)); done)); (try simp only [Act.put, List.setIfInBounds_toArray, List.set_cons_zero, List.set_cons_succ])))
        refine LexL.value (w1 := w5) (v := .string sb) (by rfl) (by decide) (by go_simp) (MKT.out _ _ H8.out) ?_
        try simp only [Act.put, List.setIfInBounds_toArray, List.set_cons_zero, List.set_cons_succ]
        repeat (first | (refine LexL.none (by rfl) ?_; (try simp only [Act.put, List.setIfInBounds_toArray, List.set_cons_zero, List.set_cons_succ])) | (refine LexL.still (v := ?_) (by rfl) ?_ ?_; rotate_left; (focus (intro W hW; (try dsimp only at hW); go_simp; (try (with_reducible rfl)); done)); (try simp only [Act.put, List.setIfInBounds_toArray, List.set_cons_zero, List.set_cons_succ])))
        refine LexL.done ?_
        have h9 := plw_close (H8.out.eq (by ac_rfl : _ = pltw (.slice aB lB cB) b 69 (chc us g'.now) g'.d * (gblk bg bd vs g'.now * (dsk bd g'.d * (R9 * ownb vb g'.d.b)))))
        have h10 : Holds w5 (ownb vb g'.d.b * (gblk bg bd vs g'.now * (dsk bd g'.d * (nodes3 bd vs g'.f * (cst b us g'.d g'.now * (vergs3 b us g'.f * old w)))))) := by
          have h9' : Holds w5 (cst b us g'.d g'.now * (gblk bg bd vs g'.now * (dsk bd g'.d * (R9 * ownb vb g'.d.b)))) := h9
          exact h9'.eq (by rw [← HR9.out]; ac_rfl)
        have H10 := Lib.hid h10.right
        clear h9 h10 H7 H8 HR9 hs2 MKT HSB
        go_wp2_with fail
        go_loopw [6] (fun i wr => ∃ m : Nat, m ≤ 5 ∧ i = .int .i64 ((m : Int) - 1) ∧ Holds wr (gblk bg bd vs g'.now * (dsk bd g'.d * (nodes3 bd vs g'.f * (cst b us g'.d g'.now * (vergs3 b us g'.f * old w))))) ∧ Quiet w wr) (fun i _ => 5 - (intOf i + 1).toNat)
        case atStart => exact ⟨0, by omega, by simp, H10.out, Q8.out⟩
        case round =>
          obtain ⟨n, hn, rfl, hh, hqu⟩ := hrel
          obtain ⟨wi, rfl⟩ : ∃ wi : World, wi = wr := ⟨_, rfl⟩
          have HI := Lib.hid hh; have QI := Lib.hid hqu; clear hh hqu
          have hw1 : IntKind.i64.wrap ((n : Int) - 1 + 1) = (n : Int) := by rw [IntKind.wrap_i64]; omega
          by_cases hn5 : n < 5
          · have hle3 : ((n : Int) - 1) ≤ 3 := by omega
            have hle3b : decide (((n : Int) - 1) ≤ 3) = true := by simpa using hle3
            by_cases hn0 : n = 0
            · subst hn0
              have hg := gNode_sl bg bd vs g'.now (((0 : Nat) : Int) - 1) wi HI.out
              rw [show gAt vs (((0 : Nat) : Int) - 1) = .pointer none from by unfold gAt; rw [if_pos (by omega)]] at hg
              have HG := Lib.hid hg; clear hg
              have hneg : ((((0 : Nat) : Int) - 1) < 0) := by omega
              have hnegb : decide ((((0 : Nat) : Int) - 1) < 0) = true := by simpa using hneg
              go_wp2_with fail
              refine HG.out.mono ?_
              rintro e w6 ⟨rfl, rfl⟩
              go_wp2_with fail
              go_roundw
              case rel => exact ⟨1, by omega, by simp, HI.out, QI.out⟩
              case measure => simp [intOf]
            · by_cases hn4 : n = 4
              · subst hn4
                have hg := gNode_sl bg bd vs g'.now (((4 : Nat) : Int) - 1) wi HI.out
                rw [show gAt vs (((4 : Nat) : Int) - 1) = .pointer none from by unfold gAt; rw [if_pos (by omega)]] at hg
                have HG := Lib.hid hg; clear hg
                have hneg : ¬ ((((4 : Nat) : Int) - 1) < 0) := by omega
                have hnegb : decide ((((4 : Nat) : Int) - 1) < 0) = false := by simpa using hneg
                have hge : 3 ≤ (((4 : Nat) : Int) - 1) := by omega
                have hgeb : decide (3 ≤ (((4 : Nat) : Int) - 1)) = true := by simpa using hge
                go_wp2_with fail
                refine HG.out.mono ?_
                rintro e w6 ⟨rfl, rfl⟩
                go_wp2_with fail
                go_roundw
                case rel => exact ⟨5, by omega, by simp, HI.out, QI.out⟩
                case measure => simp [intOf]
              · obtain ⟨i, rfl⟩ : ∃ i, n = i + 1 := ⟨n - 1, by omega⟩
                have hi : i < 3 := by omega
                have ei : (((i + 1 : Nat) : Int) - 1) = (i : Int) := by omega
                clear hle3 hle3b hw1 hn0 hn4
                rw [ei]
                clear ei
                have hx0 : ¬ (i : Int) < 0 := by omega
                have hx3 : ¬ 3 ≤ (i : Int) := by omega
                have hxb : decide ((i : Int) < 0) = false := by simpa using hx0
                have hyb : decide (3 ≤ (i : Int)) = false := by simpa using hx3
                have hle3 : (i : Int) ≤ 3 := by omega
                have hle3b : decide ((i : Int) ≤ 3) = true := by simpa using hle3
                have hg := gNode_sl bg bd vs g'.now (i : Int) wi HI.out
                rw [show gAt vs (i : Int) = vs i from by unfold gAt; rw [if_neg (by omega)]; rfl] at hg
                obtain ⟨vB', hbb, _⟩ := cst_bl HI.out.four
                have ci := hbb.cell _ _ (chc_get _ _ us g'.now hi)
                clear hbb
                obtain ⟨fi, hf⟩ : ∃ fi, g'.f i = fi := ⟨_, rfl⟩
                cases fi with
                | none =>
                  have hv0 := pick_none HI.out hi hf
                  have hu0 := (overg_none (HI.out.eq (by rw [vergs3_pick b us g'.f hi, hf]; ac_rfl : _ = overg (us i) b none * (gblk bg bd vs g'.now * (dsk bd g'.d * (nodes3 bd vs g'.f * (cst b us g'.d g'.now * (vgrest b us g'.f i * old w)))))))).1
                  rw [hv0] at hg
                  rw [hu0] at ci
                  have HG := Lib.hid hg
                  clear hg hf hv0 hu0
                  go_wp2_with fail
                  refine HG.out.mono ?_
                  rintro e w6 ⟨rfl, rfl⟩
                  go_wp2_with fail
                  go_roundw
                  case rel => exact ⟨i + 2, by omega, by (first | go_num | (simp; omega) | (congr 1; omega)), HI.out, QI.out⟩
                  case measure => simp [intOf]; omega
                | some nd =>
                  obtain ⟨bn, hvi, hp⟩ := pick_some HI.out hi hf
                  obtain ⟨bv, hui, hq⟩ := overg_some (hp.eq (by rw [vergs3_pick b us g'.f hi, hf]; ac_rfl : _ = overg (us i) b (some nd) * (nod bn bd nd * (gblk bg bd vs g'.now * (dsk bd g'.d * (nrest bd vs g'.f i * (cst b us g'.d g'.now * (vgrest b us g'.f i * old w))))))))
                  obtain ⟨RZ, hRZ⟩ : ∃ RZ, gblk bg bd vs g'.now * (dsk bd g'.d * (nrest bd vs g'.f i * (vgrest b us g'.f i * old w))) = RZ := ⟨_, rfl⟩
                  have H11 := Lib.hid (hq.eq (by rw [← hRZ]; ac_rfl : _ = nod bn bd nd * (vrg bv b nd * (cst b us g'.d g'.now * RZ))))
                  obtain ⟨bt, h12⟩ := nod_open H11.out
                  have H12 := Lib.hid h12
                  rw [hvi] at hg
                  rw [hui] at ci
                  have HG := Lib.hid hg; have HVI := Lib.hid hvi; have HUI := Lib.hid hui; have HF := Lib.hid hf; have HRZ := Lib.hid hRZ
                  clear hg hvi hui hf hp hq hRZ h12
                  have mkS : ∀ (W : World) (A : HP), Holds W (nblk bn bt bd nd * A) → W.cell? ⟨bn, 0, none⟩ = some (.pointer (some ⟨bt, 0, none⟩)) := fun W A hW =>
                    (show BlockAt W bn 61 (ncells bt bd nd) from hW.bl).cell 0 _ rfl
                  have MKS := Lib.hid mkS
                  clear mkS
                  go_wp2_with fail
                  refine HG.out.mono ?_
                  rintro e w6 ⟨rfl, rfl⟩
                  go_wp2_with fail
                  have bq := (show BlockAt wi.drew bv 72 (gcl b nd) from H11.out.drew.two.bl)
                  refine wp_region_lex (fun W => W.cell? ⟨bn, 0, none⟩ = some (.pointer (some ⟨bt, 0, none⟩)) ∧ W.cell? ⟨bv, 24, none⟩ = some (.int .i64 nd.t.now) ∧ W.cell? ⟨bv, 26, none⟩ = some (.int .i64 nd.ep) ∧ W.cell? ⟨bv, 27, none⟩ = some (.bool nd.down)) [4, 11, 13, 20, 25] (by kernel_rfl) (by kernel_rfl) ⟨MKS.out _ _ H12.out.drew, bq.cell 24 _ rfl, bq.cell 26 _ rfl, bq.cell 27 _ rfl⟩ ?_
                  have S6 := Lib.hid (show wi.drew.cell? ⟨bn, 0, none⟩ = some (.pointer (some ⟨bt, 0, none⟩)) ∧ wi.drew.cell? ⟨bv, 24, none⟩ = some (.int .i64 nd.t.now) ∧ wi.drew.cell? ⟨bv, 26, none⟩ = some (.int .i64 nd.ep) ∧ wi.drew.cell? ⟨bv, 27, none⟩ = some (.bool nd.down) from ⟨MKS.out _ _ H12.out.drew, bq.cell 24 _ rfl, bq.cell 26 _ rfl, bq.cell 27 _ rfl⟩)
                  clear bq ci
                  repeat (first | (refine LexL.none (by rfl) ?_; (try simp only [Act.put, List.setIfInBounds_toArray, List.set_cons_zero, List.set_cons_succ])) | (refine LexL.still (v := ?_) (by rfl) ?_ ?_; rotate_left; (focus (intro W hW; (try dsimp only at hW); go_simp; (try (with_reducible rfl)); done)); (try simp only [Act.put, List.setIfInBounds_toArray, List.set_cons_zero, List.set_cons_succ])))
                  refine LexL.call (f := 25) (args := #[.pointer (some ⟨bn, 0, none⟩)]) (w1 := wi.drew) (by rfl) (by decide) (by go_simp) ?_
                  refine (nEpoch_sl bn bd nd _ H11.out.drew).mono ?_
                  rintro e w7 ⟨rfl, rfl⟩
                  refine ⟨_, rfl, S6.out, ?_⟩
                  try simp only [Act.put, List.setIfInBounds_toArray, List.set_cons_zero, List.set_cons_succ]
                  repeat (first | (refine LexL.none (by rfl) ?_; (try simp only [Act.put, List.setIfInBounds_toArray, List.set_cons_zero, List.set_cons_succ])) | (refine LexL.still (v := ?_) (by rfl) ?_ ?_; rotate_left; (focus (intro W hW; (try dsimp only at hW); go_simp; (try (with_reducible rfl)); done)); (try simp only [Act.put, List.setIfInBounds_toArray, List.set_cons_zero, List.set_cons_succ])))
                  refine LexL.call (f := 17) (args := #[.pointer (some ⟨bn, 0, none⟩)]) (w1 := wi.drew) (by rfl) (by decide) (by go_simp) ?_
                  refine (nDown_sl bn bd nd _ H11.out.drew).mono ?_
                  rintro e w7 ⟨rfl, rfl⟩
                  refine ⟨_, rfl, S6.out, ?_⟩
                  try simp only [Act.put, List.setIfInBounds_toArray, List.set_cons_zero, List.set_cons_succ]
                  repeat (first | (refine LexL.none (by rfl) ?_; (try simp only [Act.put, List.setIfInBounds_toArray, List.set_cons_zero, List.set_cons_succ])) | (refine LexL.still (v := ?_) (by rfl) ?_ ?_; rotate_left; (focus (intro W hW; (try dsimp only at hW); go_simp; (try (with_reducible rfl)); done)); (try simp only [Act.put, List.setIfInBounds_toArray, List.set_cons_zero, List.set_cons_succ])))
                  refine LexL.call (f := 26) (args := #[.pointer (some ⟨bt, 0, none⟩)]) (w1 := wi.drew) (by rfl) (by decide) (by go_simp) ?_
                  refine (now_sl bt nd.t _ H12.out.drew.two).mono ?_
                  rintro e w7 ⟨rfl, rfl⟩
                  refine ⟨_, rfl, S6.out, ?_⟩
                  try simp only [Act.put, List.setIfInBounds_toArray, List.set_cons_zero, List.set_cons_succ]
                  repeat (first | (refine LexL.none (by rfl) ?_; (try simp only [Act.put, List.setIfInBounds_toArray, List.set_cons_zero, List.set_cons_succ])) | (refine LexL.still (v := ?_) (by rfl) ?_ ?_; rotate_left; (focus (intro W hW; (try dsimp only at hW); go_simp; (try (with_reducible rfl)); done)); (try simp only [Act.put, List.setIfInBounds_toArray, List.set_cons_zero, List.set_cons_succ])))
                  refine LexL.done ?_
                  clear S6
                  go_wp2_with fail
                  go_loopw [9] (fun i wr => ∃ m : Nat, m ≤ 6 ∧ i = .int .i64 m ∧ Holds wr (nblk bn bt bd nd * (tab bt nd.t * (vrg bv b nd * (cst b us g'.d g'.now * RZ)))) ∧ Quiet w wr) (fun i _ => 6 - (intOf i).toNat)
                  case atStart => exact ⟨0, by omega, rfl, H12.out.drew, QI.out.drew⟩
                  case round =>
                    obtain ⟨m2, hm, rfl, hh, hqu⟩ := hrel
                    obtain ⟨wj, rfl⟩ : ∃ wj : World, wj = wr := ⟨_, rfl⟩
                    have HHm := Lib.hid hh; have HQm := Lib.hid hqu; clear hh hqu
                    by_cases hlt2 : m2 < 6
                    · obtain ⟨⟨s1, s2, s3, s4⟩, hJ⟩ : ∃ J, nd.t.job m2 = J := ⟨_, rfl⟩
                      have HJ := Lib.hid hJ
                      have hlt2' : (m2 : Int) < 6 := by omega
                      clear hJ
                      go_wp2_with fail
                      refine wp_region_lex (fun W => W.cell? ⟨bn, 0, none⟩ = some (.pointer (some ⟨bt, 0, none⟩))) [5, 10] (by kernel_rfl) (by kernel_rfl) (MKS.out _ _ HHm.out.drew) ?_
                      repeat (first | (refine LexL.none (by rfl) ?_; (try simp only [Act.put, List.setIfInBounds_toArray, List.set_cons_zero, List.set_cons_succ])) | (refine LexL.still (v := ?_) (by rfl) ?_ ?_; rotate_left; (focus (intro W hW; (try dsimp only at hW); go_simp; (try (with_reducible rfl)); done)); (try simp only [Act.put, List.setIfInBounds_toArray, List.set_cons_zero, List.set_cons_succ])))
                      refine LexL.call (f := 22) (args := #[.pointer (some ⟨bt, 0, none⟩), .int .i64 m2]) (w1 := wj.drew) (by rfl) (by decide) (by go_simp) ?_
                      refine (job_sl bt nd.t m2 _ HHm.out.drew.two).mono ?_
                      rw [HJ.out]
                      simp only [Job.val, jcells]
                      rintro e w8 ⟨rfl, hb_⟩
                      have H8 := Lib.hid (HHm.out.drew.below hb_); have Q8 := Lib.hid (HQm.out.drew.trans (Quiet.below hb_)); clear hb_
                      refine ⟨_, rfl, MKS.out _ _ H8.out, ?_⟩
                      try simp only [Act.put, List.setIfInBounds_toArray, List.set_cons_zero, List.set_cons_succ]
                      repeat (first | (refine LexL.none (by rfl) ?_; (try simp only [Act.put, List.setIfInBounds_toArray, List.set_cons_zero, List.set_cons_succ])) | (refine LexL.still (v := ?_) (by rfl) ?_ ?_; rotate_left; (focus (intro W hW; (try dsimp only at hW); go_simp; (try (with_reducible rfl)); done)); (try simp only [Act.put, List.setIfInBounds_toArray, List.set_cons_zero, List.set_cons_succ])))
                      refine LexL.call (f := 23) (args := #[.pointer (some ⟨bv, 0, none⟩), .int .i64 m2]) (w1 := w8) (by rfl) (by decide) (by go_simp) ?_
                      refine (bjob_any bv 72 [.pointer (some ⟨b, 0, none⟩), .int .i64 nd.ep, .bool nd.down] nd.t m2 _ (show BlockAt w8 bv 72 (gcl b nd) from H8.out.three.bl)).mono ?_
                      rw [HJ.out]
                      simp only [Job.val, jcells]
                      rintro e w9 ⟨rfl, hb_⟩
                      have H9 := Lib.hid (H8.out.below hb_); have Q9 := Lib.hid (Q8.out.trans (Quiet.below hb_)); clear hb_
                      refine ⟨_, rfl, MKS.out _ _ H9.out, ?_⟩
                      try simp only [Act.put, List.setIfInBounds_toArray, List.set_cons_zero, List.set_cons_succ]
                      repeat (first | (refine LexL.none (by rfl) ?_; (try simp only [Act.put, List.setIfInBounds_toArray, List.set_cons_zero, List.set_cons_succ])) | (refine LexL.still (v := ?_) (by rfl) ?_ ?_; rotate_left; (focus (intro W hW; (try dsimp only at hW); go_simp; (try (with_reducible rfl)); done)); (try simp only [Act.put, List.setIfInBounds_toArray, List.set_cons_zero, List.set_cons_succ])))
                      refine LexL.done ?_
                      go_wp2_with fail
                      go_roundw
                      case rel => exact ⟨m2 + 1, by omega, by go_num, H9.out, Q9.out⟩
                      case measure => simp [intOf]; omega
                    · obtain rfl : m2 = 6 := by omega
                      have h13 := onod_mk (nod_close HHm.out)
                      rw [← HVI.out] at h13
                      have h14 := overg_mk (h13.eq (by ac_rfl : _ = vrg bv b nd * (onod (vs i) bd (some nd) * (cst b us g'.d g'.now * RZ))))
                      rw [← HUI.out] at h14
                      have H15 := Lib.hid (h14.eq (by rw [nodes3_pick bd vs g'.f hi, vergs3_pick b us g'.f hi, HF.out, ← HRZ.out]; ac_rfl : _ = gblk bg bd vs g'.now * (dsk bd g'.d * (nodes3 bd vs g'.f * (cst b us g'.d g'.now * (vergs3 b us g'.f * old w))))))
                      clear h13 h14
                      go_wp2_with fail
                      go_roundw
                      case rel => exact ⟨i + 2, by omega, by (first | go_num | (simp; omega) | (congr 1; omega)), H15.out, HQm.out⟩
                      case measure => simp [intOf]; omega
          · obtain rfl : n = 5 := by omega
            go_wp2_with fail
            go_roundw
            case rel => exact ⟨k + 1, g', by omega, by go_num, chp_close ((gld_close (bg := bg) (g := g') (HI.out.eq (by ac_rfl : _ = gblk bg bd vs g'.now * (dsk bd g'.d * (nodes3 bd vs g'.f * (cst b us g'.d g'.now * (vergs3 b us g'.f * old w))))))).eq (by ac_rfl : _ = cst b us g'.d g'.now * (vergs3 b us g'.f * (gld bg g' * old w)))), QI.out, HOK'.out⟩
            case measure => simp [intOf]; omega
      · obtain rfl : k = L.length := by omega
        go_wp2
        go_ret
        exact ⟨rfl, (HH.out.eq (HP.assoc _ _ _).symm).toBelow HQ.out⟩
end Go.Proofs.Ytfihmpkkpgmdhac
