/-
  What the proof of DeskJoins leans on: plain definitions and laws, and contracts of functions that it reaches. No condition besides those that each theorem names.
-/
import Derived.Test.YtfihmpkkpgmdhaaGreatDoorZJh
import Derived.Deep.Cut
import Derived.Test.YtfihmpkkpgmdhaaGreatDoorZJg
import Derived.Test.YtfihmpkkpgmdhaaGreatDoorZJf
import Derived.StillTailTactics
/-
  The story by the document, walked: EventsOf.
-/
namespace Go.Proofs.YtfihmpkkpgmdhaaGreatDoor
set_option linter.unusedSimpArgs false
set_option linter.unusedVariables false
set_option linter.unnecessarySimpa false
open Go.RowKit
section
variable {P : Program} {ops : Array Oper} {S : World → Prop} {path : List Nat} {Q : Exit → Act → World → Prop}
/-- A drawn store of a whole block, as what is owned. -/
theorem LexL.storeB {o : Oper} {i : Nat} {rest : List Oper} {a : Act} {w : World} {q : Nat} {t : TypeId} {cs : List Value} {B : HP} (ty : TypeId) (x y : Operand) (ho : o.op = .store ty x y) (vs : List Value) (hx : a.eval x = .pointer (some ⟨q, 0, Option.none⟩)) (hy : a.eval y = .agg vs.toArray) (hlen : vs.length = cs.length)
    (hi : (P.info? ty).map (·.size) = some vs.length) (h1 : Ones vs) (hw : Region.wanted o (yielded ops a.tmps) = true) (hp : i ∈ path) (hA : Holds w (bl q t cs * B))
    (h : ∀ w', Holds w' (bl q t vs * B) → Quiet w w' → S w' ∧ LexL P ops S path Q (i + 1) rest (a.put o.dst undef) w') : LexL P ops S path Q i (o :: rest) a w := by
  obtain ⟨w', e, hb, hg⟩ := exec_store_part (P := P) ty x y ho q 0 vs hx hy hA.bl (by omega) hi h1
  have hb' : BlockAt w' q t vs := by simpa [hlen] using hb
  obtain ⟨hS, hl⟩ := h w' (hA.grown hg hb') (Quiet.grown hg)
  exact LexL.store hw hp e hS hl
end
theorem recs_cells7 {W : World} {g off n c i : Nat} {L : List Rec} {R : HP} (ep2 kd nw jb tr wk tm : Int) (h : Holds W (recs (.slice (some ⟨g, off, none⟩) n c) L * R)) (hi : L[i]? = some ⟨ep2, ⟨kd, nw, jb, tr, wk, tm⟩⟩) :
    W.cell? ⟨g, off + i * 7, none⟩ = some (.int .i64 ep2) ∧ W.cell? ⟨g, off + i * 7 + 1, none⟩ = some (.int .i64 kd) ∧ W.cell? ⟨g, off + i * 7 + 2, none⟩ = some (.int .i64 nw) ∧ W.cell? ⟨g, off + i * 7 + 3, none⟩ = some (.int .i64 jb) ∧ W.cell? ⟨g, off + i * 7 + 4, none⟩ = some (.int .i64 tr) ∧ W.cell? ⟨g, off + i * 7 + 5, none⟩ = some (.int .i64 wk) ∧ W.cell? ⟨g, off + i * 7 + 6, none⟩ = some (.int .i64 tm) := by
  have hn : L.length ≠ 0 := by intro e; have := (List.getElem?_eq_some_iff.1 hi).1; omega
  obtain ⟨g', off', c', e, _, _, hc⟩ := h.row.get hn
  simp only [Value.slice.injEq, Option.some.injEq, Addr.mk.injEq, and_true] at e
  obtain ⟨⟨rfl, rfl⟩, _, rfl⟩ := e
  exact ⟨rvs_cell0 hc hi, rvs_cell hc hi 1 _ (by omega) rfl, rvs_cell hc hi 2 _ (by omega) rfl, rvs_cell hc hi 3 _ (by omega) rfl, rvs_cell hc hi 4 _ (by omega) rfl, rvs_cell hc hi 5 _ (by omega) rfl, rvs_cell hc hi 6 _ (by omega) rfl⟩
set_option maxRecDepth 100000 in
set_option maxHeartbeats 8000000 in
theorem eventsOf_any (v : Value) (b : List UInt8) (w : World) (h : BytesAt w v b) (hl : b.length ≤ 100000) : Calls Tryz.prog 37 #[v] w (PostX w (old w) (fun v => v) fun v => revs v (evs Tbl.zero (allB b))) := by
  obtain ⟨va, vc, rfl, -, -⟩ := h.shape
  have HV := Lib.hid h; clear h
  have hL9 := allB_len b
  obtain ⟨L, hL⟩ : ∃ L, allB b = L := ⟨_, rfl⟩
  have HL := Lib.hid hL
  rw [hL] at hL9 ⊢
  clear hL
  obtain ⟨i0, hi, hz0, hz1, hz2⟩ := info_parts Tryz.infoREv
  have HI := Lib.hid hi; have HZ0 := Lib.hid hz0; have HZ1 := Lib.hid hz1; have HZ2 := Lib.hid hz2
  clear hi hz0 hz1 hz2
  go_enter Tryz.func37, Tryz.ntmps37
  go_wp2_with fail
  refine (recsof_sl _ b _ HV.out hl Holds.old).mono ?_
  rw [HL.out]
  rintro e w2 ⟨v2, rfl, q2, h2⟩
  obtain ⟨a, cc, rfl, c1, c2⟩ := h2.row.shape
  have H2 := Lib.hid (Holds.nilRE ((show Holds w2 (recs (.slice a L.length cc) L * old w) from h2).boxB (ty := 96) (cs := tcells Tbl.zero) rfl))
  have Q2 := Lib.hid (q2.alloc (.cells (tcells Tbl.zero).toArray 96))
  clear h2 q2 c1 c2
  have hL200 : L.length ≤ 20000 := by omega
  obtain ⟨bb, hbb⟩ : ∃ bb, w2.heap.size = bb := ⟨_, rfl⟩
  rw [hbb] at H2
  go_wp2_with fail
  go_loopw [4, 6] (fun s i wr => ∃ k : Nat, k ≤ L.length ∧ i = .int .i64 k ∧ Holds wr (revs s (evs Tbl.zero (L.take k)) * (recs (.slice a L.length cc) L * (tb bb 96 (runL Tbl.zero (L.take k)) * old w))) ∧ Quiet w wr) (fun _ i _ => L.length - (intOf i).toNat)
  case atStart => exact ⟨0, by omega, rfl, H2.out.eq (by ac_rfl), Q2.out⟩
  case round =>
    obtain ⟨k, hk, rfl, hh, hq⟩ := hrel
    have HK := Lib.hid hk
    try rw [hbb]
    by_cases hlt : k < L.length
    · obtain ⟨r, hr⟩ : ∃ r, L[k]? = some r := ⟨_, List.getElem?_eq_getElem hlt⟩
      obtain ⟨g, off, cx, e, _, _, hc0⟩ := hh.two.row.get (by omega)
      simp only [Value.slice.injEq] at e
      obtain ⟨rfl, _, rfl⟩ := e
      have hrun := Lib.hid (runL_step hr Tbl.zero)
      have hev := Lib.hid (evs_step hr)
      have hin := Lib.hid (runL_in Tbl.zero_in (L.take k))
      obtain ⟨acc, hacc⟩ : ∃ acc, evs Tbl.zero (L.take k) = acc := ⟨_, rfl⟩
      have hal : acc.length ≤ 20000 := by rw [← hacc, evs_len, List.length_take]; omega
      obtain ⟨ep2, ⟨kd, nw, jb, tr, wk, tm⟩⟩ := r
      dsimp only at hrun
      obtain ⟨T, hT⟩ : ∃ T, runL Tbl.zero (L.take k) = T := ⟨_, rfl⟩
      rw [hT] at hh hin hrun hev
      rw [hacc] at hh hev
      unfold evOf at hev
      dsimp only at hev
      obtain ⟨⟨T', ⟨a0, a1, a2⟩⟩, hX⟩ : ∃ X, T.did ⟨kd, nw, jb, tr, wk, tm⟩ = X := ⟨_, rfl⟩
      rw [hX] at hrun hev
      dsimp only at hrun hev
      have HX := Lib.hid hX
      obtain ⟨wo, rfl⟩ : ∃ wo : World, wo = wr := ⟨_, rfl⟩
      have mkR : ∀ (W : World) (A : HP), Holds W (recs (.slice (some ⟨g, off, none⟩) L.length cc) L * A) → W.cell? ⟨g, off + k * 7, none⟩ = some (.int .i64 ep2) ∧ W.cell? ⟨g, off + k * 7 + 1, none⟩ = some (.int .i64 kd) ∧ W.cell? ⟨g, off + k * 7 + 2, none⟩ = some (.int .i64 nw) ∧ W.cell? ⟨g, off + k * 7 + 3, none⟩ = some (.int .i64 jb) ∧ W.cell? ⟨g, off + k * 7 + 4, none⟩ = some (.int .i64 tr) ∧ W.cell? ⟨g, off + k * 7 + 5, none⟩ = some (.int .i64 wk) ∧ W.cell? ⟨g, off + k * 7 + 6, none⟩ = some (.int .i64 tm) := fun W A hW => recs_cells7 ep2 kd nw jb tr wk tm hW hr
      obtain ⟨y0, y1, y2, y3, y4, y5, y6⟩ := mkR wo _ hh.two
      have MKR := Lib.hid mkR
      have HH := Lib.hid hh; have HQ := Lib.hid hq
      have HKL := Lib.hid hlt
      have hlt' : (k : Int) < (L.length : Int) := by omega
      clear hh hq hr hc0 hT hX hacc mkR
      go_wp2_with fail
      clear y0 y1 y2 y3 y4 y5 y6
      refine (bdo_sl bb T kd nw jb tr wk tm _ HH.out.three hin.out.ok).mono ?_
      rw [HX.out]
      dsimp only
      rintro e w3 ⟨rfl, q3, h3⟩
      have H3 := Lib.hid (show Holds w3 (tb bb 96 T' * (revs u4 acc * (recs (.slice (some ⟨g, off, none⟩) L.length cc) L * old w))) from h3); have Q3 := Lib.hid (HQ.out.trans q3)
      clear h3 q3
      go_wp2_with fail
      obtain ⟨w4, hw4, H4, Q4⟩ : ∃ w4, w3.alloc (.cells #[.int .i64 a0, .int .i64 a1, .int .i64 a2] 88) = w4 ∧ Hid (Holds w4 (bl w3.heap.size 88 [.int .i64 a0, .int .i64 a1, .int .i64 a2] * (tb bb 96 T' * (revs u4 acc * (recs (.slice (some ⟨g, off, none⟩) L.length cc) L * old w))))) ∧ Hid (Quiet w w4) := ⟨_, rfl, Lib.hid (H3.out.boxB (ty := 88) (cs := [.int .i64 a0, .int .i64 a1, .int .i64 a2]) rfl), Lib.hid (Q3.out.alloc _)⟩
      rw [hw4]
      obtain ⟨ga, hga⟩ : ∃ ga, w3.heap.size = ga := ⟨_, rfl⟩
      rw [hga] at H4 ⊢
      clear hw4 hga H3 Q3
      have mkS : ∀ (W : World) (A : HP), Holds W (bl ga 88 [.int .i64 a0, .int .i64 a1, .int .i64 a2] * (recs (.slice (some ⟨g, off, none⟩) L.length cc) L * A)) → (W.cell? ⟨g, off + k * 7, none⟩ = some (.int .i64 ep2) ∧ W.cell? ⟨g, off + k * 7 + 1, none⟩ = some (.int .i64 kd) ∧ W.cell? ⟨g, off + k * 7 + 2, none⟩ = some (.int .i64 nw) ∧ W.cell? ⟨g, off + k * 7 + 3, none⟩ = some (.int .i64 jb) ∧ W.cell? ⟨g, off + k * 7 + 4, none⟩ = some (.int .i64 tr) ∧ W.cell? ⟨g, off + k * 7 + 5, none⟩ = some (.int .i64 wk) ∧ W.cell? ⟨g, off + k * 7 + 6, none⟩ = some (.int .i64 tm)) ∧ W.cell? ⟨ga, 0, none⟩ = some (.int .i64 a0) ∧ W.cell? ⟨ga, 1, none⟩ = some (.int .i64 a1) ∧ W.cell? ⟨ga, 2, none⟩ = some (.int .i64 a2) := fun W A hW =>
        ⟨MKR.out W _ hW.two, hW.bl.cell 0 _ rfl, hW.bl.cell 1 _ rfl, hW.bl.cell 2 _ rfl⟩
      have MKS := Lib.hid mkS
      clear mkS
      refine wp_region_lex (fun W => (W.cell? ⟨g, off + k * 7, none⟩ = some (.int .i64 ep2) ∧ W.cell? ⟨g, off + k * 7 + 1, none⟩ = some (.int .i64 kd) ∧ W.cell? ⟨g, off + k * 7 + 2, none⟩ = some (.int .i64 nw) ∧ W.cell? ⟨g, off + k * 7 + 3, none⟩ = some (.int .i64 jb) ∧ W.cell? ⟨g, off + k * 7 + 4, none⟩ = some (.int .i64 tr) ∧ W.cell? ⟨g, off + k * 7 + 5, none⟩ = some (.int .i64 wk) ∧ W.cell? ⟨g, off + k * 7 + 6, none⟩ = some (.int .i64 tm)) ∧ W.cell? ⟨ga, 0, none⟩ = some (.int .i64 a0) ∧ W.cell? ⟨ga, 1, none⟩ = some (.int .i64 a1) ∧ W.cell? ⟨ga, 2, none⟩ = some (.int .i64 a2)) [6, 7] (by kernel_rfl) (by kernel_rfl) (MKS.out _ _ (H4.out.drew.eq (by ac_rfl : _ = bl ga 88 [.int .i64 a0, .int .i64 a1, .int .i64 a2] * (recs (.slice (some ⟨g, off, none⟩) L.length cc) L * (tb bb 96 T' * (revs u4 acc * old w)))))) ?_
      iterate 5 ((first | (refine LexL.none (by rfl) ?_; (try simp only [Act.put, List.setIfInBounds_toArray, List.set_cons_zero, List.set_cons_succ])) | (refine LexL.still (v := ?_) (by rfl) ?_ ?_; rotate_left; (focus (intro W hW; (try dsimp only at hW); go_simp; (try (with_reducible rfl)); done)); (try simp only [Act.put, List.setIfInBounds_toArray, List.set_cons_zero, List.set_cons_succ]))))
      refine LexL.still (v := .agg #[.int .i64 ep2, .int .i64 kd, .int .i64 nw, .int .i64 jb, .int .i64 tr, .int .i64 wk, .int .i64 tm, .int .i64 a0, .int .i64 a1, .int .i64 a2, .int .i64 0, .int .i64 0, .int .i64 0, .int .i64 0]) (by rfl) (fun W hW => exec_built 105 _ rfl [.int .i64 ep2, .int .i64 kd, .int .i64 nw, .int .i64 jb, .int .i64 tr, .int .i64 wk, .int .i64 tm, .int .i64 a0, .int .i64 a1, .int .i64 a2, .int .i64 0, .int .i64 0, .int .i64 0, .int .i64 0] (by kernel_rfl)) ?_
      try simp only [Act.put, List.setIfInBounds_toArray, List.set_cons_zero, List.set_cons_succ]
      obtain ⟨ge, hge⟩ : ∃ ge, w4.drew.heap.size = ge := ⟨_, rfl⟩
      have hb := H4.out.drew.boxB (ty := 105) (cs := [.int .i64 0, .int .i64 0, .int .i64 0, .int .i64 0, .int .i64 0, .int .i64 0, .int .i64 0, .int .i64 0, .int .i64 0, .int .i64 0, .int .i64 0, .int .i64 0, .int .i64 0, .int .i64 0]) hge
      have HB := Lib.hid hb; clear hb
      refine LexL.value (w1 := w4.drew.alloc (.cells #[.int .i64 0, .int .i64 0, .int .i64 0, .int .i64 0, .int .i64 0, .int .i64 0, .int .i64 0, .int .i64 0, .int .i64 0, .int .i64 0, .int .i64 0, .int .i64 0, .int .i64 0, .int .i64 0] 105)) (v := .pointer (some ⟨w4.drew.heap.size, 0, none⟩)) (by rfl) (by decide) (by go_simp) (MKS.out _ _ (HB.out.eq (by ac_rfl : _ = bl ga 88 [.int .i64 a0, .int .i64 a1, .int .i64 a2] * (recs (.slice (some ⟨g, off, none⟩) L.length cc) L * (bl ge 105 [.int .i64 0, .int .i64 0, .int .i64 0, .int .i64 0, .int .i64 0, .int .i64 0, .int .i64 0, .int .i64 0, .int .i64 0, .int .i64 0, .int .i64 0, .int .i64 0, .int .i64 0, .int .i64 0] * (tb bb 96 T' * (revs u4 acc * old w))))))) ?_
      rw [hge]
      try simp only [Act.put, List.setIfInBounds_toArray, List.set_cons_zero, List.set_cons_succ]
      refine LexL.storeB (q := ge) (t := 105) (cs := [.int .i64 0, .int .i64 0, .int .i64 0, .int .i64 0, .int .i64 0, .int .i64 0, .int .i64 0, .int .i64 0, .int .i64 0, .int .i64 0, .int .i64 0, .int .i64 0, .int .i64 0, .int .i64 0]) (B := bl ga 88 [.int .i64 a0, .int .i64 a1, .int .i64 a2] * (tb bb 96 T' * (revs u4 acc * (recs (.slice (some ⟨g, off, none⟩) L.length cc) L * old w)))) 105 _ _ rfl [.int .i64 ep2, .int .i64 kd, .int .i64 nw, .int .i64 jb, .int .i64 tr, .int .i64 wk, .int .i64 tm, .int .i64 a0, .int .i64 a1, .int .i64 a2, .int .i64 0, .int .i64 0, .int .i64 0, .int .i64 0] rfl rfl rfl (by kernel_rfl) (evcells_ones ⟨⟨ep2, ⟨kd, nw, jb, tr, wk, tm⟩⟩, ⟨a0, a1, a2⟩, ⟨0, 0, 0, 0⟩⟩) (by rfl) (by decide) HB.out ?_
      intro w5 h5 q5
      have H5 := Lib.hid h5; have Q5 := Lib.hid ((Q4.out.drew.alloc (.cells #[.int .i64 0, .int .i64 0, .int .i64 0, .int .i64 0, .int .i64 0, .int .i64 0, .int .i64 0, .int .i64 0, .int .i64 0, .int .i64 0, .int .i64 0, .int .i64 0, .int .i64 0, .int .i64 0] 105)).trans q5)
      clear h5 q5 hge
      refine ⟨MKS.out _ _ (H5.out.eq (by ac_rfl : _ = bl ga 88 [.int .i64 a0, .int .i64 a1, .int .i64 a2] * (recs (.slice (some ⟨g, off, none⟩) L.length cc) L * (bl ge 105 [.int .i64 ep2, .int .i64 kd, .int .i64 nw, .int .i64 jb, .int .i64 tr, .int .i64 wk, .int .i64 tm, .int .i64 a0, .int .i64 a1, .int .i64 a2, .int .i64 0, .int .i64 0, .int .i64 0, .int .i64 0] * (tb bb 96 T' * (revs u4 acc * old w)))))), ?_⟩
      try simp only [Act.put, List.setIfInBounds_toArray, List.set_cons_zero, List.set_cons_succ]
      refine LexL.done ?_
      clear HB H4 Q4
      by_cases hc : a0 = 0
      · subst hc
        rw [if_pos rfl] at hev
        by_cases h2 : kd = 2
        · subst h2
          rw [if_pos rfl] at hev
          obtain ⟨⟨s1, s2, s3, s4⟩, hJ⟩ : ∃ J, T'.job a1 = J := ⟨_, rfl⟩
          rw [hJ] at hev
          have HJ := Lib.hid hJ; clear hJ
          obtain ⟨⟨y0, y1, y2, y3, y4, y5, y6⟩, x0, x1, x2⟩ := MKS.out _ _ (H5.out.eq (by ac_rfl : _ = bl ga 88 [.int .i64 0, .int .i64 a1, .int .i64 a2] * (recs (.slice (some ⟨g, off, none⟩) L.length cc) L * (bl ge 105 [.int .i64 ep2, .int .i64 2, .int .i64 nw, .int .i64 jb, .int .i64 tr, .int .i64 wk, .int .i64 tm, .int .i64 0, .int .i64 a1, .int .i64 a2, .int .i64 0, .int .i64 0, .int .i64 0, .int .i64 0] * (tb bb 96 T' * (revs u4 acc * old w))))))
          go_wp2_with fail
          clear y0 y1 y2 y3 y4 y5 y6 x0 x1 x2
          refine (bjob_sl bb T' a1 _ H5.out.three).mono ?_
          rw [HJ.out]
          simp only [Job.val, jcells]
          rintro e w6 ⟨rfl, hb6⟩
          have H6 := Lib.hid (H5.out.below hb6); have Q6 := Lib.hid (Q5.out.trans (Quiet.below hb6))
          have ce := H6.out.bl.cells
          have fe := H6.out.bl.frees
          have le := H6.out.bl.lt
          clear hb6 H5 Q5
          go_upto_region 11 with fail
          obtain ⟨w7, hw7, H7, Q7⟩ : ∃ w7, (((w6.setCell ⟨ge, 10, none⟩ (.int .i64 s1)).setCell ⟨ge, 11, none⟩ (.int .i64 s2)).setCell ⟨ge, 12, none⟩ (.int .i64 s3)).setCell ⟨ge, 13, none⟩ (.int .i64 s4) = w7 ∧ Hid (Holds w7 (bl ge 105 [.int .i64 ep2, .int .i64 2, .int .i64 nw, .int .i64 jb, .int .i64 tr, .int .i64 wk, .int .i64 tm, .int .i64 0, .int .i64 a1, .int .i64 a2, .int .i64 s1, .int .i64 s2, .int .i64 s3, .int .i64 s4] * (bl ga 88 [.int .i64 0, .int .i64 a1, .int .i64 a2] * (tb bb 96 T' * (revs u4 acc * (recs (.slice (some ⟨g, off, none⟩) L.length cc) L * old w)))))) ∧ Hid (Quiet w w7) :=
            ⟨_, rfl, Lib.hid ((((H6.out.setB 10 (.int .i64 s1)).setB 11 (.int .i64 s2)).setB 12 (.int .i64 s3)).setB 13 (.int .i64 s4)), Lib.hid ((((Q6.out.setCell _ _).setCell _ _).setCell _ _).setCell _ _)⟩
          rw [hw7]
          clear hw7 ce fe le H6 Q6
          obtain ⟨⟨y0, y1, y2, y3, y4, y5, y6⟩, x0, x1, x2⟩ := MKS.out _ _ (H7.out.eq (by ac_rfl : _ = bl ga 88 [.int .i64 0, .int .i64 a1, .int .i64 a2] * (recs (.slice (some ⟨g, off, none⟩) L.length cc) L * (bl ge 105 [.int .i64 ep2, .int .i64 2, .int .i64 nw, .int .i64 jb, .int .i64 tr, .int .i64 wk, .int .i64 tm, .int .i64 0, .int .i64 a1, .int .i64 a2, .int .i64 s1, .int .i64 s2, .int .i64 s3, .int .i64 s4] * (tb bb 96 T' * (revs u4 acc * old w))))))
          have ce := H7.out.bl.cells
          have hn3 := (OwnRow.new w7 105 14 1 [.int .i64 ep2, .int .i64 2, .int .i64 nw, .int .i64 jb, .int .i64 tr, .int .i64 wk, .int .i64 tm, .int .i64 0, .int .i64 a1, .int .i64 a2, .int .i64 s1, .int .i64 s2, .int .i64 s3, .int .i64 s4] rfl (evcells_ones ⟨⟨ep2, ⟨2, nw, jb, tr, wk, tm⟩⟩, ⟨0, a1, a2⟩, ⟨s1, s2, s3, s4⟩⟩) (by omega)).row
          have ho3 := (H7.out.alloc (.cells #[.int .i64 ep2, .int .i64 2, .int .i64 nw, .int .i64 jb, .int .i64 tr, .int .i64 wk, .int .i64 tm, .int .i64 0, .int .i64 a1, .int .i64 a2, .int .i64 s1, .int .i64 s2, .int .i64 s3, .int .i64 s4] 105)).four
          have HN3 := Lib.hid hn3; have HO3 := Lib.hid ho3; have QO3 := Lib.hid (Q7.out.alloc (.cells #[.int .i64 ep2, .int .i64 2, .int .i64 nw, .int .i64 jb, .int .i64 tr, .int .i64 wk, .int .i64 tm, .int .i64 0, .int .i64 a1, .int .i64 a2, .int .i64 s1, .int .i64 s2, .int .i64 s3, .int .i64 s4] 105)); clear hn3 ho3
          go_wp2_with (at_builtin; refine wpList_append_sl rfl _ _ 100 rfl 105 i0 _ 14 112 Tryz.underlying100 HI.out HZ0.out HZ1.out HZ2.out rfl (by decide) rfl rfl HO3.out HN3.out rfl (evcells_ones ⟨⟨ep2, ⟨2, nw, jb, tr, wk, tm⟩⟩, ⟨0, a1, a2⟩, ⟨s1, s2, s3, s4⟩⟩) (by omega) (by omega) ?_; intro v' w' hv' hq'; have HV' := Lib.hid hv'; have HQ' := Lib.hid hq'; clear hv' hq')
          go_roundw
          case rel => exact ⟨k + 1, by omega, by go_num, by rw [hev.out, hrun.out]; exact ((rev_fit acc ⟨⟨ep2, ⟨2, nw, jb, tr, wk, tm⟩⟩, ⟨0, a1, a2⟩, ⟨s1, s2, s3, s4⟩⟩ HV'.out).eq (by ac_rfl : _ = bl ge 105 [.int .i64 ep2, .int .i64 2, .int .i64 nw, .int .i64 jb, .int .i64 tr, .int .i64 wk, .int .i64 tm, .int .i64 0, .int .i64 a1, .int .i64 a2, .int .i64 s1, .int .i64 s2, .int .i64 s3, .int .i64 s4] * (bl ga 88 [.int .i64 0, .int .i64 a1, .int .i64 a2] * (revs v' (acc ++ [⟨⟨ep2, ⟨2, nw, jb, tr, wk, tm⟩⟩, ⟨0, a1, a2⟩, ⟨s1, s2, s3, s4⟩⟩]) * (recs (.slice (some ⟨g, off, none⟩) L.length cc) L * (tb bb 96 T' * old w)))))).right.right, QO3.out.trans HQ'.out⟩
          case measure => simp [intOf]; omega
        · have hk2 : (kd == 2) = false := by simpa using h2
          have hk3 : (kd != 2) = true := by simpa using h2
          rw [if_neg h2] at hev
          clear h2
          obtain ⟨⟨s1, s2, s3, s4⟩, hJ⟩ : ∃ J, T'.job jb = J := ⟨_, rfl⟩
          rw [hJ] at hev
          have HJ := Lib.hid hJ; clear hJ
          obtain ⟨⟨y0, y1, y2, y3, y4, y5, y6⟩, x0, x1, x2⟩ := MKS.out _ _ (H5.out.eq (by ac_rfl : _ = bl ga 88 [.int .i64 0, .int .i64 a1, .int .i64 a2] * (recs (.slice (some ⟨g, off, none⟩) L.length cc) L * (bl ge 105 [.int .i64 ep2, .int .i64 kd, .int .i64 nw, .int .i64 jb, .int .i64 tr, .int .i64 wk, .int .i64 tm, .int .i64 0, .int .i64 a1, .int .i64 a2, .int .i64 0, .int .i64 0, .int .i64 0, .int .i64 0] * (tb bb 96 T' * (revs u4 acc * old w))))))
          go_wp2_with fail
          clear y0 y1 y2 y3 y4 y5 y6 x0 x1 x2
          refine (bjob_sl bb T' jb _ H5.out.three).mono ?_
          rw [HJ.out]
          simp only [Job.val, jcells]
          rintro e w6 ⟨rfl, hb6⟩
          have H6 := Lib.hid (H5.out.below hb6); have Q6 := Lib.hid (Q5.out.trans (Quiet.below hb6))
          have ce := H6.out.bl.cells
          have fe := H6.out.bl.frees
          have le := H6.out.bl.lt
          clear hb6 H5 Q5
          go_upto_region 13 with fail
          obtain ⟨w7, hw7, H7, Q7⟩ : ∃ w7, (((w6.setCell ⟨ge, 10, none⟩ (.int .i64 s1)).setCell ⟨ge, 11, none⟩ (.int .i64 s2)).setCell ⟨ge, 12, none⟩ (.int .i64 s3)).setCell ⟨ge, 13, none⟩ (.int .i64 s4) = w7 ∧ Hid (Holds w7 (bl ge 105 [.int .i64 ep2, .int .i64 kd, .int .i64 nw, .int .i64 jb, .int .i64 tr, .int .i64 wk, .int .i64 tm, .int .i64 0, .int .i64 a1, .int .i64 a2, .int .i64 s1, .int .i64 s2, .int .i64 s3, .int .i64 s4] * (bl ga 88 [.int .i64 0, .int .i64 a1, .int .i64 a2] * (tb bb 96 T' * (revs u4 acc * (recs (.slice (some ⟨g, off, none⟩) L.length cc) L * old w)))))) ∧ Hid (Quiet w w7) :=
            ⟨_, rfl, Lib.hid ((((H6.out.setB 10 (.int .i64 s1)).setB 11 (.int .i64 s2)).setB 12 (.int .i64 s3)).setB 13 (.int .i64 s4)), Lib.hid ((((Q6.out.setCell _ _).setCell _ _).setCell _ _).setCell _ _)⟩
          rw [hw7]
          clear hw7 ce fe le H6 Q6
          have ce := H7.out.bl.cells
          have hn3 := (OwnRow.new w7 105 14 1 [.int .i64 ep2, .int .i64 kd, .int .i64 nw, .int .i64 jb, .int .i64 tr, .int .i64 wk, .int .i64 tm, .int .i64 0, .int .i64 a1, .int .i64 a2, .int .i64 s1, .int .i64 s2, .int .i64 s3, .int .i64 s4] rfl (evcells_ones ⟨⟨ep2, ⟨kd, nw, jb, tr, wk, tm⟩⟩, ⟨0, a1, a2⟩, ⟨s1, s2, s3, s4⟩⟩) (by omega)).row
          have ho3 := (H7.out.alloc (.cells #[.int .i64 ep2, .int .i64 kd, .int .i64 nw, .int .i64 jb, .int .i64 tr, .int .i64 wk, .int .i64 tm, .int .i64 0, .int .i64 a1, .int .i64 a2, .int .i64 s1, .int .i64 s2, .int .i64 s3, .int .i64 s4] 105)).four
          have HN3 := Lib.hid hn3; have HO3 := Lib.hid ho3; have QO3 := Lib.hid (Q7.out.alloc (.cells #[.int .i64 ep2, .int .i64 kd, .int .i64 nw, .int .i64 jb, .int .i64 tr, .int .i64 wk, .int .i64 tm, .int .i64 0, .int .i64 a1, .int .i64 a2, .int .i64 s1, .int .i64 s2, .int .i64 s3, .int .i64 s4] 105)); clear hn3 ho3
          go_wp2_with (at_builtin; refine wpList_append_sl rfl _ _ 100 rfl 105 i0 _ 14 112 Tryz.underlying100 HI.out HZ0.out HZ1.out HZ2.out rfl (by decide) rfl rfl HO3.out HN3.out rfl (evcells_ones ⟨⟨ep2, ⟨kd, nw, jb, tr, wk, tm⟩⟩, ⟨0, a1, a2⟩, ⟨s1, s2, s3, s4⟩⟩) (by omega) (by omega) ?_; intro v' w' hv' hq'; have HV' := Lib.hid hv'; have HQ' := Lib.hid hq'; clear hv' hq')
          go_roundw
          case rel => exact ⟨k + 1, by omega, by go_num, by rw [hev.out, hrun.out]; exact ((rev_fit acc ⟨⟨ep2, ⟨kd, nw, jb, tr, wk, tm⟩⟩, ⟨0, a1, a2⟩, ⟨s1, s2, s3, s4⟩⟩ HV'.out).eq (by ac_rfl : _ = bl ge 105 [.int .i64 ep2, .int .i64 kd, .int .i64 nw, .int .i64 jb, .int .i64 tr, .int .i64 wk, .int .i64 tm, .int .i64 0, .int .i64 a1, .int .i64 a2, .int .i64 s1, .int .i64 s2, .int .i64 s3, .int .i64 s4] * (bl ga 88 [.int .i64 0, .int .i64 a1, .int .i64 a2] * (revs v' (acc ++ [⟨⟨ep2, ⟨kd, nw, jb, tr, wk, tm⟩⟩, ⟨0, a1, a2⟩, ⟨s1, s2, s3, s4⟩⟩]) * (recs (.slice (some ⟨g, off, none⟩) L.length cc) L * (tb bb 96 T' * old w)))))).right.right, QO3.out.trans HQ'.out⟩
          case measure => simp [intOf]; omega
      · have hc2 : (a0 == 0) = false := by simpa using hc
        rw [if_neg hc] at hev
        clear hc
        obtain ⟨⟨y0, y1, y2, y3, y4, y5, y6⟩, x0, x1, x2⟩ := MKS.out _ _ (H5.out.eq (by ac_rfl : _ = bl ga 88 [.int .i64 a0, .int .i64 a1, .int .i64 a2] * (recs (.slice (some ⟨g, off, none⟩) L.length cc) L * (bl ge 105 [.int .i64 ep2, .int .i64 kd, .int .i64 nw, .int .i64 jb, .int .i64 tr, .int .i64 wk, .int .i64 tm, .int .i64 a0, .int .i64 a1, .int .i64 a2, .int .i64 0, .int .i64 0, .int .i64 0, .int .i64 0] * (tb bb 96 T' * (revs u4 acc * old w))))))
        have ce := H5.out.bl.cells
        have hn3 := (OwnRow.new w5 105 14 1 [.int .i64 ep2, .int .i64 kd, .int .i64 nw, .int .i64 jb, .int .i64 tr, .int .i64 wk, .int .i64 tm, .int .i64 a0, .int .i64 a1, .int .i64 a2, .int .i64 0, .int .i64 0, .int .i64 0, .int .i64 0] rfl (evcells_ones ⟨⟨ep2, ⟨kd, nw, jb, tr, wk, tm⟩⟩, ⟨a0, a1, a2⟩, ⟨0, 0, 0, 0⟩⟩) (by omega)).row
        have ho3 := (H5.out.alloc (.cells #[.int .i64 ep2, .int .i64 kd, .int .i64 nw, .int .i64 jb, .int .i64 tr, .int .i64 wk, .int .i64 tm, .int .i64 a0, .int .i64 a1, .int .i64 a2, .int .i64 0, .int .i64 0, .int .i64 0, .int .i64 0] 105)).four
        have HN3 := Lib.hid hn3; have HO3 := Lib.hid ho3; have QO3 := Lib.hid (Q5.out.alloc (.cells #[.int .i64 ep2, .int .i64 kd, .int .i64 nw, .int .i64 jb, .int .i64 tr, .int .i64 wk, .int .i64 tm, .int .i64 a0, .int .i64 a1, .int .i64 a2, .int .i64 0, .int .i64 0, .int .i64 0, .int .i64 0] 105)); clear hn3 ho3
        go_wp2_with (at_builtin; refine wpList_append_sl rfl _ _ 100 rfl 105 i0 _ 14 112 Tryz.underlying100 HI.out HZ0.out HZ1.out HZ2.out rfl (by decide) rfl rfl HO3.out HN3.out rfl (evcells_ones ⟨⟨ep2, ⟨kd, nw, jb, tr, wk, tm⟩⟩, ⟨a0, a1, a2⟩, ⟨0, 0, 0, 0⟩⟩) (by omega) (by omega) ?_; intro v' w' hv' hq'; have HV' := Lib.hid hv'; have HQ' := Lib.hid hq'; clear hv' hq')
        go_roundw
        case rel => exact ⟨k + 1, by omega, by go_num, by rw [hev.out, hrun.out]; exact ((rev_fit acc ⟨⟨ep2, ⟨kd, nw, jb, tr, wk, tm⟩⟩, ⟨a0, a1, a2⟩, ⟨0, 0, 0, 0⟩⟩ HV'.out).eq (by ac_rfl : _ = bl ge 105 [.int .i64 ep2, .int .i64 kd, .int .i64 nw, .int .i64 jb, .int .i64 tr, .int .i64 wk, .int .i64 tm, .int .i64 a0, .int .i64 a1, .int .i64 a2, .int .i64 0, .int .i64 0, .int .i64 0, .int .i64 0] * (bl ga 88 [.int .i64 a0, .int .i64 a1, .int .i64 a2] * (revs v' (acc ++ [⟨⟨ep2, ⟨kd, nw, jb, tr, wk, tm⟩⟩, ⟨a0, a1, a2⟩, ⟨0, 0, 0, 0⟩⟩]) * (recs (.slice (some ⟨g, off, none⟩) L.length cc) L * (tb bb 96 T' * old w)))))).right.right, QO3.out.trans HQ'.out⟩
        case measure => simp [intOf]; omega
    · obtain rfl : k = L.length := by omega
      go_wp2
      go_ret
      exact ⟨_, rfl, hq, by rw [List.take_length] at hh; exact (hh.eq (by ac_rfl : _ = recs (.slice a L.length cc) L * (tb bb 96 (runL Tbl.zero L) * (revs u4 (evs Tbl.zero L) * old w)))).right.right⟩
theorem eventsOf_sl (v : Value) (b : List UInt8) (w : World) (h : BytesAt w v b) (hl : b.length ≤ 100000) {R : HP} (hr : Holds w R) : Calls Tryz.prog 37 #[v] w (PostX w R (fun v => v) fun v => revs v (evs Tbl.zero (allB b))) :=
  (eventsOf_any v b w h hl).mono fun e w' ⟨x, he, hq, hh⟩ => ⟨x, he, hq, hh.frame hr⟩
end Go.Proofs.YtfihmpkkpgmdhaaGreatDoor

/-
  What a desk's order leans on: the place of a word, a copy of numbers, results in a cell.
-/
namespace Go.Proofs.YtfihmpkkpgmdhaaGreatDoor
set_option maxRecDepth 100000
set_option linter.unusedSimpArgs false
set_option linter.unusedVariables false
set_option linter.unnecessarySimpa false
open Go.RowKit
def fz1 (i : Nat) (ty : TypeId) (cs : List Value) : Nat → Option (TypeId × List Value) := fun k => if k = i then some (ty, cs) else Option.none
theorem fz1_fl {i : Nat} {ty : TypeId} {cs : List Value} : ∀ k, fz1 i ty cs k ≠ Option.none → k ∈ [i] := fun k h => by
  unfold fz1 at h
  split at h
  · subst_vars; simp
  · exact absurd rfl h
theorem fz1_no {i : Nat} {ty : TypeId} {cs : List Value} : ∀ k ∈ [i], fz1 i ty cs k ≠ Option.none := fun k h => by
  obtain rfl := List.mem_singleton.1 h
  unfold fz1
  rw [if_pos rfl]
  exact fun h => by cases h
theorem fz1_ok {P : Program} {ops : Array Oper} {i : Nat} {o1 : Oper} {ty : TypeId} {cs : List Value} (h1 : ops[i]? = some o1) (r1 : MadeBy P o1 ty cs) : FzOk P ops (fz1 i ty cs) := fun k t c h o ho => by
  unfold fz1 at h
  split at h
  · subst_vars
    simp only [Option.some.injEq, Prod.mk.injEq] at h
    obtain ⟨rfl, rfl⟩ := h
    rw [h1] at ho
    obtain rfl := Option.some.inj ho
    exact r1
  · cases h
theorem results_mix {P : Program} {fn : Func} {tmps : Array Value} {w : World} {a b : Nat} {t : TypeId} {ad : Addr} {v x : Value} (hr : fn.results = #[.cell a t, .tmp b]) (ha : tmps.getD a undef = .pointer (some ad)) (hb : tmps.getD b undef = x) (hl : (loadVar t ad).run P w = .ok v w) : (results fn tmps).run P w = .ok (.tuple #[v, x]) w := by
  have h1 : (asAddr (.pointer (some ad))).run P w = .ok ad w := rfl
  have ha' : tmps[a]?.getD undef = .pointer (some ad) := by simpa using ha
  have hb' : tmps[b]?.getD undef = x := by simpa using hb
  unfold results
  rw [hr]
  simp [Sem.run_bind, ha', hb', h1, hl]
theorem index_sl (v : Value) (l : List (List UInt8)) (x : List UInt8) (w : World) (hv : RowAt w v l.length (svls l)) (h0 : l.length ≠ 0) (hn : l.length ≤ 1000) :
    Calls Tryz.prog 46 #[v, .string (strOf x)] w fun e w' => e = .returned (.int .i64 (Lib.idxOfS (l.map strOf) (strOf x))) ∧ w' = w := by
  obtain ⟨g, off, c, rfl, h1, h2, h3⟩ := hv.get h0
  have hl : (l.map strOf).length = l.length := List.length_map ..
  have := Tryz.slices_Index_string g off l.length c (l.map strOf) (strOf x) w (by omega) (by omega) (fun j hj => by
    obtain ⟨y, hy⟩ : ∃ y, l[j]? = some y := ⟨_, List.getElem?_eq_getElem (by omega)⟩
    have e : (l.map strOf).getD j ByteArray.empty = strOf y := by simp [List.getD, hy]
    rw [e]
    exact h3 j _ (svls_get hy))
  rw [← hl, List.take_length, hl] at this
  exact this
theorem clone_sl (v : Value) (l : List Int) (w : World) (hv : RowAt w v l.length (ivs l)) (h0 : l.length ≠ 0) (hn : l.length ≤ 1000) {R : HP} (h : Holds w R) :
    Calls Tryz.prog 72 #[v] w (PostX w R (fun v => v) fun v => rw_ 3 1 v l.length (ivs l)) := by
  obtain ⟨g, off, c, rfl, h1, h2, h3⟩ := hv.get h0
  refine (Tryz.slices_Clone_int g off l.length c l w (Nat.le_refl _) (by omega) (fun j hj => ?_)).mono ?_
  · obtain ⟨y, hy⟩ : ∃ y, l[j]? = some y := ⟨_, List.getElem?_eq_getElem (by omega)⟩
    have e : l.getD j 0 = y := by simp [List.getD, hy]
    rw [e]
    exact h3 j _ (by simp [ivs, hy])
  · rintro e w' ⟨v', rfl, ho, hne, hb⟩
    rw [List.take_length] at ho
    rcases ho.2 with ⟨rfl, hn0⟩ | ⟨g', cap, cur, rfl, hge, hg', hnc, hcm, hcs, ht⟩
    · exact absurd hn0 h0
    · refine ⟨_, rfl, Quiet.below hb, ?_⟩
      refine h.new hb.block (B := rw_ 3 1 (.slice (some ⟨g', 0, none⟩) l.length cap) l.length (ivs l)) (F := fun k => Value.ownBlock (.slice (some ⟨g', 0, none⟩) l.length cap) = some k) ⟨⟨by simp [ivs], ivs_ones l, .inr ⟨g', cap, cur.toList, rfl, by simpa [BlockAt] using hg', hnc, by simpa using Nat.le_of_eq hcs.symm, hcm, by simpa [ivs] using ht⟩⟩, rfl⟩ ?_
      intro k hk
      simp [Value.ownBlock] at hk
      omega
def kwords : List (List UInt8) := [[], tAdd, tTake, tRenew, tDone, tDrop]
theorem kidx_add : Lib.idxOfS (kwords.map strOf) (strOf tAdd) = 1 := by decide +kernel
theorem kidx_take : Lib.idxOfS (kwords.map strOf) (strOf tTake) = 2 := by decide +kernel
theorem kidx_renew : Lib.idxOfS (kwords.map strOf) (strOf tRenew) = 3 := by decide +kernel
theorem kidx_done : Lib.idxOfS (kwords.map strOf) (strOf tDone) = 4 := by decide +kernel
theorem kidx_drop : Lib.idxOfS (kwords.map strOf) (strOf tDrop) = 5 := by decide +kernel
theorem idx_miss {l : List (List UInt8)} {x : List UInt8} (h : x ∉ l) : Lib.idxOfS (l.map strOf) (strOf x) = -1 := by
  have hx : strOf x ∉ l.map strOf := fun hm => by
    obtain ⟨y, hy, e⟩ := List.mem_map.1 hm
    exact h (strOf_inj e ▸ hy)
  have h1 := fun hn => hx ((Lib.idxOfS_nonneg_iff _ _).1 hn)
  have h2 : ∀ (zs : List ByteArray) (y : ByteArray) (i : Nat), y ∉ zs → Lib.idxFromS zs y i = -1 := by
    intro zs y
    induction zs with
    | nil => intro i _; rfl
    | cons z zs ih =>
      intro i hn
      unfold Lib.idxFromS
      rw [if_neg (fun e => hn (by rw [e]; exact List.mem_cons_self ..)), ih _ (fun hm => hn (List.mem_cons_of_mem _ hm))]
  exact h2 _ _ 0 hx
end Go.Proofs.YtfihmpkkpgmdhaaGreatDoor

/-
  desk.order: of a word and its numbers.
-/
namespace Go.Proofs.YtfihmpkkpgmdhaaGreatDoor
set_option maxRecDepth 100000
set_option linter.unusedSimpArgs false
set_option linter.unusedVariables false
set_option linter.unnecessarySimpa false
open Go.RowKit
theorem cell_alloc_keep {w : World} {a : Addr} {v : Value} (h : w.cell? a = some v) (o : Obj) : (w.alloc o).cell? a = some v := by
  rw [World.cell?_of_block (Below.heap_alloc w o a.block (block_lt_of_cell h))]
  exact h
theorem row_cells {w : World} {g o c n : Nat} {xs : List Value} {A : HP} (h : Holds w (rw_ 3 1 (.slice (some ⟨g, o, none⟩) n c) n xs * A)) (hn : n ≠ 0) (j : Nat) (u : Value) (hj : xs[j]? = some u) : w.cell? ⟨g, o + j, none⟩ = some u := by
  obtain ⟨g', o', c', e, -, -, hc⟩ := h.row.get hn
  simp only [Value.slice.injEq, Option.some.injEq, Addr.mk.injEq, and_true] at e
  obtain ⟨⟨rfl, rfl⟩, -, rfl⟩ := e
  exact hc j u hj
def zord : List Value := [.int .i64 0, .int .i64 0, .int .i64 0, .int .i64 0, .int .i64 0, .int .i64 0]
def oval (o : Ord) : Value := .agg #[.int .i64 o.kind, .int .i64 o.now, .int .i64 o.job, .int .i64 o.tr, .int .i64 o.wk, .int .i64 o.tm]
theorem kwords_row {w : World} {g : Nat} (hg : w.heap.size = g) (cs : Array Value) (hc : cs = (svls kwords).toArray) (ty : TypeId) : RowAt (w.alloc (.cells cs ty)) (.slice (some ⟨g, 0, none⟩) 6 6) kwords.length (svls kwords) := svls_row (l := kwords) hg (by decide) cs hc ty
set_option maxHeartbeats 4000000 in
theorem order_add (v : Value) (a : Int) (w : World) (hv : RowAt w v 1 (ivs [a])) {R : HP} (h : Holds w R) :
    Calls Tryz.prog 42 #[.string (strOf tAdd), v] w (PostN w R (.tuple #[.agg #[.int .i64 1, .int .i64 0, .int .i64 a, .int .i64 0, .int .i64 0, .int .i64 0], .bool true])) := by
  obtain ⟨va, vc, rfl, -, -⟩ := hv.shape
  have HV := Lib.hid hv
  obtain ⟨i0, hi, hz0, hz1, hz2⟩ := info_parts Tryz.infoI64
  have HI := Lib.hid hi; have HZ0 := Lib.hid hz0; have HZ1 := Lib.hid hz1; have HZ2 := Lib.hid hz2
  clear hi hz0 hz1 hz2
  have HX := Lib.hid kidx_add
  obtain ⟨w1, hw1, H1, Q1⟩ : ∃ w1, w.alloc (.cells #[.int .i64 0, .int .i64 0, .int .i64 0, .int .i64 0, .int .i64 0, .int .i64 0] 84) = w1 ∧ Hid (Holds w1 (bl w.heap.size 84 zord * R)) ∧ Hid (Quiet w w1) :=
    ⟨_, rfl, Lib.hid (h.boxB (ty := 84) (cs := zord) rfl), Lib.hid ((Quiet.refl w).alloc _)⟩
  have hv1 : RowAt w1 (.slice va 1 vc) 1 (ivs [a]) := hw1 ▸ hv.alloc _
  have HV1 := Lib.hid hv1
  clear hv hv1 h
  obtain ⟨q0, hq0⟩ : ∃ q0, w.heap.size = q0 := ⟨_, rfl⟩
  rw [hq0] at H1
  go_enter Tryz.func42, Tryz.ntmps42
  go_wp2_with fail
  clear hw1 hq0
  refine (index_sl _ kwords tAdd _ (kwords_row rfl _ rfl _) (by decide) (by decide)).mono ?_
  rw [HX.out]
  rintro e w2 ⟨rfl, rfl⟩
  have H2 := Lib.hid ((H1.out.alloc (.cells (svls kwords).toArray 9)).alloc (.cells #[.int .i64 0, .int .i64 1, .int .i64 2, .int .i64 4, .int .i64 3, .int .i64 3] 3))
  go_wp2_with fail
  refine (clone_sl _ [a] _ ((HV1.out.alloc _).alloc _) (by simp) (by simp) H2.out).mono ?_
  rintro e w3 ⟨v3, rfl, q3, h3⟩
  obtain ⟨g3, o3, c3, rfl, -, -, -⟩ := h3.row.get (by simp)
  have H3 := Lib.hid (h3.alloc (.cells #[.int .i64 0, .int .i64 0, .int .i64 0] 3))
  have Q3 := Lib.hid ((Q1.out.trans (((Quiet.refl _).alloc _).alloc _)).trans q3)
  clear h3 q3
  go_wp2_with (at_builtin; refine wpList_append_sl (n := 1) (m := 3) rfl _ _ 70 rfl 3 i0 _ 1 8 Tryz.underlying70 HI.out HZ0.out HZ1.out HZ2.out rfl (by decide) rfl rfl H3.out (ivs_row (l := [0, 0, 0]) rfl (by simp) _ rfl _) rfl (ivs_ones [0, 0, 0]) (by omega) (by omega) ?_; intro v4 w4 h4 q4; obtain ⟨g4, o4, c4, rfl, -, -, hc⟩ := h4.row.get (by simp); have H4 := Lib.hid h4; have Q4 := Lib.hid (Q3.out.trans (((Quiet.refl _).alloc _).trans q4)); have y0 := hc 0 _ rfl; have y1 := hc 1 _ rfl; have y2 := hc 2 _ rfl; have y3 := hc 3 _ rfl; clear hc h4 q4)
  have z0 : w4.drew.cell? ⟨g4, o4, none⟩ = some (.int .i64 a) := y0
  have z1 : w4.drew.cell? ⟨g4, o4 + 1, none⟩ = some (.int .i64 0) := y1
  have z2 : w4.drew.cell? ⟨g4, o4 + 2, none⟩ = some (.int .i64 0) := y2
  have z3 : w4.drew.cell? ⟨g4, o4 + 3, none⟩ = some (.int .i64 0) := y3
  refine wp_region_lexH (fun W => W.cell? ⟨g4, o4, none⟩ = some (.int .i64 a) ∧ W.cell? ⟨g4, o4 + 1, none⟩ = some (.int .i64 0) ∧ W.cell? ⟨g4, o4 + 2, none⟩ = some (.int .i64 0) ∧ W.cell? ⟨g4, o4 + 3, none⟩ = some (.int .i64 0)) [15] [14] (fz1 14 84 zord) _ (by kernel_rfl) (by kernel_rfl) (by kernel_rfl) fz1_fl fz1_no (fz1_ok rfl ⟨rfl, fun a w => by kernel_rfl⟩) (fun W o h => ⟨cell_alloc_keep h.1 o, cell_alloc_keep h.2.1 o, cell_alloc_keep h.2.2.1 o, cell_alloc_keep h.2.2.2 o⟩) ⟨z0, z1, z2, z3⟩ H4.out.drew ?_
  clear y0 y1 y2 y3 z0 z1 z2 z3
  repeat (first | (refine LexHL.still (v := ?_) (by rfl) (by rfl) ?_ ?_; rotate_left; (focus (intro W hW; (try dsimp only at hW); go_simp; (try (with_reducible rfl)); done)); (try simp only [Act.put, List.setIfInBounds_toArray, List.set_cons_zero, List.set_cons_succ])))
  refine LexHL.made rfl ?_
  intro q1 hlv
  clear hlv
  try simp only [Act.put, List.setIfInBounds_toArray, List.set_cons_zero, List.set_cons_succ]
  refine LexHL.storeB (q := q1) (t := 84) (cs := zord) (B := rw_ 3 1 (.slice (some ⟨g4, o4, none⟩) (1 + 3) c4) (1 + 3) (ivs [a] ++ ivs [0, 0, 0]) * (bl q0 84 zord * R)) 84 _ _ rfl [.int .i64 1, .int .i64 0, .int .i64 a, .int .i64 0, .int .i64 0, .int .i64 0] rfl rfl rfl (by kernel_rfl) (by simp [Ones, Value.oneCell']) rfl rfl (by decide) rfl (fun W R2 h => ⟨by simpa using row_cells h.left.right (by simp) 0 _ rfl, row_cells h.left.right (by simp) 1 _ rfl, row_cells h.left.right (by simp) 2 _ rfl, row_cells h.left.right (by simp) 3 _ rfl⟩) ?_
  try simp only [Act.put, List.setIfInBounds_toArray, List.set_cons_zero, List.set_cons_succ]
  refine LexHL.done ?_
  intro W hS hA hq
  have HA := Lib.hid hA; have QA := Lib.hid (Q4.out.drew.trans hq)
  obtain ⟨z0, z1, z2, z3⟩ := hS
  clear hA hq
  go_wp2_with (first | (refine wpList_store_whole rfl 84 _ _ rfl q1 [.int .i64 1, .int .i64 0, .int .i64 a, .int .i64 0, .int .i64 0, .int .i64 0] rfl rfl HA.out.bl rfl (by kernel_rfl) (by simp [Ones, Value.oneCell']) ?_; intro w5 h1' h2' h3'; have HB := Lib.hid (HA.out.grown h2' h1'); have QB := Lib.hid (QA.out.trans (Quiet.grown h2')); clear h1' h2' h3') | (refine wpList_load_whole rfl 84 _ rfl q1 rfl [.int .i64 1, .int .i64 0, .int .i64 a, .int .i64 0, .int .i64 0, .int .i64 0] HB.out.bl Tryz.underlying84 rfl (by kernel_rfl) ?_) | (refine wpList_store_whole rfl 84 _ _ rfl q0 [.int .i64 1, .int .i64 0, .int .i64 a, .int .i64 0, .int .i64 0, .int .i64 0] rfl rfl HB.out.three.bl rfl (by kernel_rfl) (by simp [Ones, Value.oneCell']) ?_; intro w6 h1' h2' h3'; have HE := Lib.hid (HB.out.three.grown h2' h1'); have QE := Lib.hid (QB.out.trans (Quiet.grown h2')); clear h1' h2' h3'))
  have hl := run_load_part (P := Tryz.prog) (off := 0) (ty := 84) (vs := [.int .i64 1, .int .i64 0, .int .i64 a, .int .i64 0, .int .i64 0, .int .i64 0]) HE.out.bl rfl Tryz.underlying84 rfl (by kernel_rfl)
  exact bodyPost_ret (results_mix rfl rfl rfl hl) rfl ⟨rfl, QE.out, HE.out.right.right.right⟩
set_option maxHeartbeats 4000000 in
theorem order_take (v : Value) (a b : Int) (w : World) (hv : RowAt w v 2 (ivs [a, b])) {R : HP} (h : Holds w R) :
    Calls Tryz.prog 42 #[.string (strOf tTake), v] w (PostN w R (.tuple #[.agg #[.int .i64 2, .int .i64 0, .int .i64 0, .int .i64 0, .int .i64 a, .int .i64 b], .bool true])) := by
  obtain ⟨va, vc, rfl, -, -⟩ := hv.shape
  have HV := Lib.hid hv
  obtain ⟨i0, hi, hz0, hz1, hz2⟩ := info_parts Tryz.infoI64
  have HI := Lib.hid hi; have HZ0 := Lib.hid hz0; have HZ1 := Lib.hid hz1; have HZ2 := Lib.hid hz2
  clear hi hz0 hz1 hz2
  have HX := Lib.hid kidx_take
  obtain ⟨w1, hw1, H1, Q1⟩ : ∃ w1, w.alloc (.cells #[.int .i64 0, .int .i64 0, .int .i64 0, .int .i64 0, .int .i64 0, .int .i64 0] 84) = w1 ∧ Hid (Holds w1 (bl w.heap.size 84 zord * R)) ∧ Hid (Quiet w w1) :=
    ⟨_, rfl, Lib.hid (h.boxB (ty := 84) (cs := zord) rfl), Lib.hid ((Quiet.refl w).alloc _)⟩
  have hv1 : RowAt w1 (.slice va 2 vc) 2 (ivs [a, b]) := hw1 ▸ hv.alloc _
  have HV1 := Lib.hid hv1
  clear hv hv1 h
  obtain ⟨q0, hq0⟩ : ∃ q0, w.heap.size = q0 := ⟨_, rfl⟩
  rw [hq0] at H1
  go_enter Tryz.func42, Tryz.ntmps42
  go_wp2_with fail
  clear hw1 hq0
  refine (index_sl _ kwords tTake _ (kwords_row rfl _ rfl _) (by decide) (by decide)).mono ?_
  rw [HX.out]
  rintro e w2 ⟨rfl, rfl⟩
  have H2 := Lib.hid ((H1.out.alloc (.cells (svls kwords).toArray 9)).alloc (.cells #[.int .i64 0, .int .i64 1, .int .i64 2, .int .i64 4, .int .i64 3, .int .i64 3] 3))
  go_wp2_with fail
  refine (clone_sl _ [a, b] _ ((HV1.out.alloc _).alloc _) (by simp) (by simp) H2.out).mono ?_
  rintro e w3 ⟨v3, rfl, q3, h3⟩
  obtain ⟨g3, o3, c3, rfl, -, -, -⟩ := h3.row.get (by simp)
  have H3 := Lib.hid (h3.alloc (.cells #[.int .i64 0, .int .i64 0, .int .i64 0] 3))
  have Q3 := Lib.hid ((Q1.out.trans (((Quiet.refl _).alloc _).alloc _)).trans q3)
  clear h3 q3
  go_wp2_with (at_builtin; refine wpList_append_sl (n := 2) (m := 3) rfl _ _ 70 rfl 3 i0 _ 1 8 Tryz.underlying70 HI.out HZ0.out HZ1.out HZ2.out rfl (by decide) rfl rfl H3.out (ivs_row (l := [0, 0, 0]) rfl (by simp) _ rfl _) rfl (ivs_ones [0, 0, 0]) (by omega) (by omega) ?_; intro v4 w4 h4 q4; obtain ⟨g4, o4, c4, rfl, -, -, hc⟩ := h4.row.get (by simp); have H4 := Lib.hid h4; have Q4 := Lib.hid (Q3.out.trans (((Quiet.refl _).alloc _).trans q4)); have y0 := hc 0 _ rfl; have y1 := hc 1 _ rfl; have y2 := hc 2 _ rfl; have y3 := hc 3 _ rfl; clear hc h4 q4)
  have z0 : w4.drew.cell? ⟨g4, o4, none⟩ = some (.int .i64 a) := y0
  have z1 : w4.drew.cell? ⟨g4, o4 + 1, none⟩ = some (.int .i64 b) := y1
  have z2 : w4.drew.cell? ⟨g4, o4 + 2, none⟩ = some (.int .i64 0) := y2
  have z3 : w4.drew.cell? ⟨g4, o4 + 3, none⟩ = some (.int .i64 0) := y3
  refine wp_region_lexH (fun W => W.cell? ⟨g4, o4, none⟩ = some (.int .i64 a) ∧ W.cell? ⟨g4, o4 + 1, none⟩ = some (.int .i64 b) ∧ W.cell? ⟨g4, o4 + 2, none⟩ = some (.int .i64 0) ∧ W.cell? ⟨g4, o4 + 3, none⟩ = some (.int .i64 0)) [15] [14] (fz1 14 84 zord) _ (by kernel_rfl) (by kernel_rfl) (by kernel_rfl) fz1_fl fz1_no (fz1_ok rfl ⟨rfl, fun a w => by kernel_rfl⟩) (fun W o h => ⟨cell_alloc_keep h.1 o, cell_alloc_keep h.2.1 o, cell_alloc_keep h.2.2.1 o, cell_alloc_keep h.2.2.2 o⟩) ⟨z0, z1, z2, z3⟩ H4.out.drew ?_
  clear y0 y1 y2 y3 z0 z1 z2 z3
  repeat (first | (refine LexHL.still (v := ?_) (by rfl) (by rfl) ?_ ?_; rotate_left; (focus (intro W hW; (try dsimp only at hW); go_simp; (try (with_reducible rfl)); done)); (try simp only [Act.put, List.setIfInBounds_toArray, List.set_cons_zero, List.set_cons_succ])))
  refine LexHL.made rfl ?_
  intro q1 hlv
  clear hlv
  try simp only [Act.put, List.setIfInBounds_toArray, List.set_cons_zero, List.set_cons_succ]
  refine LexHL.storeB (q := q1) (t := 84) (cs := zord) (B := rw_ 3 1 (.slice (some ⟨g4, o4, none⟩) (2 + 3) c4) (2 + 3) (ivs [a, b] ++ ivs [0, 0, 0]) * (bl q0 84 zord * R)) 84 _ _ rfl [.int .i64 2, .int .i64 0, .int .i64 a, .int .i64 b, .int .i64 0, .int .i64 0] rfl rfl rfl (by kernel_rfl) (by simp [Ones, Value.oneCell']) rfl rfl (by decide) rfl (fun W R2 h => ⟨by simpa using row_cells h.left.right (by simp) 0 _ rfl, row_cells h.left.right (by simp) 1 _ rfl, row_cells h.left.right (by simp) 2 _ rfl, row_cells h.left.right (by simp) 3 _ rfl⟩) ?_
  try simp only [Act.put, List.setIfInBounds_toArray, List.set_cons_zero, List.set_cons_succ]
  refine LexHL.done ?_
  intro W hS hA hq
  have HA := Lib.hid hA; have QA := Lib.hid (Q4.out.drew.trans hq)
  obtain ⟨z0, z1, z2, z3⟩ := hS
  clear hA hq
  go_wp2_with fail
  refine wp_region_lex (fun W => W.cell? ⟨g4, o4, none⟩ = some (.int .i64 a) ∧ W.cell? ⟨g4, o4 + 1, none⟩ = some (.int .i64 b)) [8] (by kernel_rfl) (by kernel_rfl) ⟨z0, z1⟩ ?_
  clear z0 z1 z2 z3
  repeat (first | (refine LexL.none (by rfl) ?_; (try simp only [Act.put, List.setIfInBounds_toArray, List.set_cons_zero, List.set_cons_succ])) | (refine LexL.still (v := ?_) (by rfl) ?_ ?_; rotate_left; (focus (intro W hW; (try dsimp only at hW); go_simp; (try (with_reducible rfl)); done)); (try simp only [Act.put, List.setIfInBounds_toArray, List.set_cons_zero, List.set_cons_succ])))
  refine LexL.storeB (q := q1) (t := 84) (cs := [.int .i64 2, .int .i64 0, .int .i64 a, .int .i64 b, .int .i64 0, .int .i64 0]) 84 _ _ rfl [.int .i64 2, .int .i64 0, .int .i64 0, .int .i64 0, .int .i64 a, .int .i64 b] rfl rfl rfl (by kernel_rfl) (by simp [Ones, Value.oneCell']) (by rfl) (by decide) HA.out.drew ?_
  intro w5 h5 q5
  have HB := Lib.hid h5; have QB := Lib.hid (QA.out.drew.trans q5)
  refine ⟨⟨by simpa using row_cells h5.right (by simp) 0 _ rfl, row_cells h5.right (by simp) 1 _ rfl⟩, ?_⟩
  clear h5 q5
  try simp only [Act.put, List.setIfInBounds_toArray, List.set_cons_zero, List.set_cons_succ]
  refine LexL.done ?_
  go_wp2_with (first | (refine wpList_load_whole rfl 84 _ rfl q1 rfl [.int .i64 2, .int .i64 0, .int .i64 0, .int .i64 0, .int .i64 a, .int .i64 b] HB.out.bl Tryz.underlying84 rfl (by kernel_rfl) ?_) | (refine wpList_store_whole rfl 84 _ _ rfl q0 [.int .i64 2, .int .i64 0, .int .i64 0, .int .i64 0, .int .i64 a, .int .i64 b] rfl rfl HB.out.three.bl rfl (by kernel_rfl) (by simp [Ones, Value.oneCell']) ?_; intro w6 h1' h2' h3'; have HE := Lib.hid (HB.out.three.grown h2' h1'); have QE := Lib.hid (QB.out.trans (Quiet.grown h2')); clear h1' h2' h3'))
  have hl := run_load_part (P := Tryz.prog) (off := 0) (ty := 84) (vs := [.int .i64 2, .int .i64 0, .int .i64 0, .int .i64 0, .int .i64 a, .int .i64 b]) HE.out.bl rfl Tryz.underlying84 rfl (by kernel_rfl)
  exact bodyPost_ret (results_mix rfl rfl rfl hl) rfl ⟨rfl, QE.out, HE.out.right.right.right⟩
set_option maxHeartbeats 4000000 in
theorem order_renew (v : Value) (a b c d : Int) (w : World) (hv : RowAt w v 4 (ivs [a, b, c, d])) {R : HP} (h : Holds w R) :
    Calls Tryz.prog 42 #[.string (strOf tRenew), v] w (PostN w R (.tuple #[.agg #[.int .i64 3, .int .i64 0, .int .i64 a, .int .i64 b, .int .i64 c, .int .i64 d], .bool true])) := by
  obtain ⟨va, vc, rfl, -, -⟩ := hv.shape
  have HV := Lib.hid hv
  obtain ⟨i0, hi, hz0, hz1, hz2⟩ := info_parts Tryz.infoI64
  have HI := Lib.hid hi; have HZ0 := Lib.hid hz0; have HZ1 := Lib.hid hz1; have HZ2 := Lib.hid hz2
  clear hi hz0 hz1 hz2
  have HX := Lib.hid kidx_renew
  obtain ⟨w1, hw1, H1, Q1⟩ : ∃ w1, w.alloc (.cells #[.int .i64 0, .int .i64 0, .int .i64 0, .int .i64 0, .int .i64 0, .int .i64 0] 84) = w1 ∧ Hid (Holds w1 (bl w.heap.size 84 zord * R)) ∧ Hid (Quiet w w1) :=
    ⟨_, rfl, Lib.hid (h.boxB (ty := 84) (cs := zord) rfl), Lib.hid ((Quiet.refl w).alloc _)⟩
  have hv1 : RowAt w1 (.slice va 4 vc) 4 (ivs [a, b, c, d]) := hw1 ▸ hv.alloc _
  have HV1 := Lib.hid hv1
  clear hv hv1 h
  obtain ⟨q0, hq0⟩ : ∃ q0, w.heap.size = q0 := ⟨_, rfl⟩
  rw [hq0] at H1
  go_enter Tryz.func42, Tryz.ntmps42
  go_wp2_with fail
  clear hw1 hq0
  refine (index_sl _ kwords tRenew _ (kwords_row rfl _ rfl _) (by decide) (by decide)).mono ?_
  rw [HX.out]
  rintro e w2 ⟨rfl, rfl⟩
  have H2 := Lib.hid ((H1.out.alloc (.cells (svls kwords).toArray 9)).alloc (.cells #[.int .i64 0, .int .i64 1, .int .i64 2, .int .i64 4, .int .i64 3, .int .i64 3] 3))
  go_wp2_with fail
  refine (clone_sl _ [a, b, c, d] _ ((HV1.out.alloc _).alloc _) (by simp) (by simp) H2.out).mono ?_
  rintro e w3 ⟨v3, rfl, q3, h3⟩
  obtain ⟨g3, o3, c3, rfl, -, -, -⟩ := h3.row.get (by simp)
  have H3 := Lib.hid (h3.alloc (.cells #[.int .i64 0, .int .i64 0, .int .i64 0] 3))
  have Q3 := Lib.hid ((Q1.out.trans (((Quiet.refl _).alloc _).alloc _)).trans q3)
  clear h3 q3
  go_wp2_with (at_builtin; refine wpList_append_sl (n := 4) (m := 3) rfl _ _ 70 rfl 3 i0 _ 1 8 Tryz.underlying70 HI.out HZ0.out HZ1.out HZ2.out rfl (by decide) rfl rfl H3.out (ivs_row (l := [0, 0, 0]) rfl (by simp) _ rfl _) rfl (ivs_ones [0, 0, 0]) (by omega) (by omega) ?_; intro v4 w4 h4 q4; obtain ⟨g4, o4, c4, rfl, -, -, hc⟩ := h4.row.get (by simp); have H4 := Lib.hid h4; have Q4 := Lib.hid (Q3.out.trans (((Quiet.refl _).alloc _).trans q4)); have y0 := hc 0 _ rfl; have y1 := hc 1 _ rfl; have y2 := hc 2 _ rfl; have y3 := hc 3 _ rfl; clear hc h4 q4)
  have z0 : w4.drew.cell? ⟨g4, o4, none⟩ = some (.int .i64 a) := y0
  have z1 : w4.drew.cell? ⟨g4, o4 + 1, none⟩ = some (.int .i64 b) := y1
  have z2 : w4.drew.cell? ⟨g4, o4 + 2, none⟩ = some (.int .i64 c) := y2
  have z3 : w4.drew.cell? ⟨g4, o4 + 3, none⟩ = some (.int .i64 d) := y3
  refine wp_region_lexH (fun W => W.cell? ⟨g4, o4, none⟩ = some (.int .i64 a) ∧ W.cell? ⟨g4, o4 + 1, none⟩ = some (.int .i64 b) ∧ W.cell? ⟨g4, o4 + 2, none⟩ = some (.int .i64 c) ∧ W.cell? ⟨g4, o4 + 3, none⟩ = some (.int .i64 d)) [15] [14] (fz1 14 84 zord) _ (by kernel_rfl) (by kernel_rfl) (by kernel_rfl) fz1_fl fz1_no (fz1_ok rfl ⟨rfl, fun a w => by kernel_rfl⟩) (fun W o h => ⟨cell_alloc_keep h.1 o, cell_alloc_keep h.2.1 o, cell_alloc_keep h.2.2.1 o, cell_alloc_keep h.2.2.2 o⟩) ⟨z0, z1, z2, z3⟩ H4.out.drew ?_
  clear y0 y1 y2 y3 z0 z1 z2 z3
  repeat (first | (refine LexHL.still (v := ?_) (by rfl) (by rfl) ?_ ?_; rotate_left; (focus (intro W hW; (try dsimp only at hW); go_simp; (try (with_reducible rfl)); done)); (try simp only [Act.put, List.setIfInBounds_toArray, List.set_cons_zero, List.set_cons_succ])))
  refine LexHL.made rfl ?_
  intro q1 hlv
  clear hlv
  try simp only [Act.put, List.setIfInBounds_toArray, List.set_cons_zero, List.set_cons_succ]
  refine LexHL.storeB (q := q1) (t := 84) (cs := zord) (B := rw_ 3 1 (.slice (some ⟨g4, o4, none⟩) (4 + 3) c4) (4 + 3) (ivs [a, b, c, d] ++ ivs [0, 0, 0]) * (bl q0 84 zord * R)) 84 _ _ rfl [.int .i64 3, .int .i64 0, .int .i64 a, .int .i64 b, .int .i64 c, .int .i64 d] rfl rfl rfl (by kernel_rfl) (by simp [Ones, Value.oneCell']) rfl rfl (by decide) rfl (fun W R2 h => ⟨by simpa using row_cells h.left.right (by simp) 0 _ rfl, row_cells h.left.right (by simp) 1 _ rfl, row_cells h.left.right (by simp) 2 _ rfl, row_cells h.left.right (by simp) 3 _ rfl⟩) ?_
  try simp only [Act.put, List.setIfInBounds_toArray, List.set_cons_zero, List.set_cons_succ]
  refine LexHL.done ?_
  intro W hS hA hq
  have HA := Lib.hid hA; have QA := Lib.hid (Q4.out.drew.trans hq)
  obtain ⟨z0, z1, z2, z3⟩ := hS
  clear hA hq
  have HB := HA; have QB := QA
  go_wp2_with (first | (refine wpList_load_whole rfl 84 _ rfl q1 rfl [.int .i64 3, .int .i64 0, .int .i64 a, .int .i64 b, .int .i64 c, .int .i64 d] HB.out.bl Tryz.underlying84 rfl (by kernel_rfl) ?_) | (refine wpList_store_whole rfl 84 _ _ rfl q0 [.int .i64 3, .int .i64 0, .int .i64 a, .int .i64 b, .int .i64 c, .int .i64 d] rfl rfl HB.out.three.bl rfl (by kernel_rfl) (by simp [Ones, Value.oneCell']) ?_; intro w6 h1' h2' h3'; have HE := Lib.hid (HB.out.three.grown h2' h1'); have QE := Lib.hid (QB.out.trans (Quiet.grown h2')); clear h1' h2' h3'))
  have hl := run_load_part (P := Tryz.prog) (off := 0) (ty := 84) (vs := [.int .i64 3, .int .i64 0, .int .i64 a, .int .i64 b, .int .i64 c, .int .i64 d]) HE.out.bl rfl Tryz.underlying84 rfl (by kernel_rfl)
  exact bodyPost_ret (results_mix rfl rfl rfl hl) rfl ⟨rfl, QE.out, HE.out.right.right.right⟩
set_option maxHeartbeats 4000000 in
theorem order_done (v : Value) (a b c : Int) (w : World) (hv : RowAt w v 3 (ivs [a, b, c])) {R : HP} (h : Holds w R) :
    Calls Tryz.prog 42 #[.string (strOf tDone), v] w (PostN w R (.tuple #[.agg #[.int .i64 4, .int .i64 0, .int .i64 a, .int .i64 b, .int .i64 c, .int .i64 0], .bool true])) := by
  obtain ⟨va, vc, rfl, -, -⟩ := hv.shape
  have HV := Lib.hid hv
  obtain ⟨i0, hi, hz0, hz1, hz2⟩ := info_parts Tryz.infoI64
  have HI := Lib.hid hi; have HZ0 := Lib.hid hz0; have HZ1 := Lib.hid hz1; have HZ2 := Lib.hid hz2
  clear hi hz0 hz1 hz2
  have HX := Lib.hid kidx_done
  obtain ⟨w1, hw1, H1, Q1⟩ : ∃ w1, w.alloc (.cells #[.int .i64 0, .int .i64 0, .int .i64 0, .int .i64 0, .int .i64 0, .int .i64 0] 84) = w1 ∧ Hid (Holds w1 (bl w.heap.size 84 zord * R)) ∧ Hid (Quiet w w1) :=
    ⟨_, rfl, Lib.hid (h.boxB (ty := 84) (cs := zord) rfl), Lib.hid ((Quiet.refl w).alloc _)⟩
  have hv1 : RowAt w1 (.slice va 3 vc) 3 (ivs [a, b, c]) := hw1 ▸ hv.alloc _
  have HV1 := Lib.hid hv1
  clear hv hv1 h
  obtain ⟨q0, hq0⟩ : ∃ q0, w.heap.size = q0 := ⟨_, rfl⟩
  rw [hq0] at H1
  go_enter Tryz.func42, Tryz.ntmps42
  go_wp2_with fail
  clear hw1 hq0
  refine (index_sl _ kwords tDone _ (kwords_row rfl _ rfl _) (by decide) (by decide)).mono ?_
  rw [HX.out]
  rintro e w2 ⟨rfl, rfl⟩
  have H2 := Lib.hid ((H1.out.alloc (.cells (svls kwords).toArray 9)).alloc (.cells #[.int .i64 0, .int .i64 1, .int .i64 2, .int .i64 4, .int .i64 3, .int .i64 3] 3))
  go_wp2_with fail
  refine (clone_sl _ [a, b, c] _ ((HV1.out.alloc _).alloc _) (by simp) (by simp) H2.out).mono ?_
  rintro e w3 ⟨v3, rfl, q3, h3⟩
  obtain ⟨g3, o3, c3, rfl, -, -, -⟩ := h3.row.get (by simp)
  have H3 := Lib.hid (h3.alloc (.cells #[.int .i64 0, .int .i64 0, .int .i64 0] 3))
  have Q3 := Lib.hid ((Q1.out.trans (((Quiet.refl _).alloc _).alloc _)).trans q3)
  clear h3 q3
  go_wp2_with (at_builtin; refine wpList_append_sl (n := 3) (m := 3) rfl _ _ 70 rfl 3 i0 _ 1 8 Tryz.underlying70 HI.out HZ0.out HZ1.out HZ2.out rfl (by decide) rfl rfl H3.out (ivs_row (l := [0, 0, 0]) rfl (by simp) _ rfl _) rfl (ivs_ones [0, 0, 0]) (by omega) (by omega) ?_; intro v4 w4 h4 q4; obtain ⟨g4, o4, c4, rfl, -, -, hc⟩ := h4.row.get (by simp); have H4 := Lib.hid h4; have Q4 := Lib.hid (Q3.out.trans (((Quiet.refl _).alloc _).trans q4)); have y0 := hc 0 _ rfl; have y1 := hc 1 _ rfl; have y2 := hc 2 _ rfl; have y3 := hc 3 _ rfl; clear hc h4 q4)
  have z0 : w4.drew.cell? ⟨g4, o4, none⟩ = some (.int .i64 a) := y0
  have z1 : w4.drew.cell? ⟨g4, o4 + 1, none⟩ = some (.int .i64 b) := y1
  have z2 : w4.drew.cell? ⟨g4, o4 + 2, none⟩ = some (.int .i64 c) := y2
  have z3 : w4.drew.cell? ⟨g4, o4 + 3, none⟩ = some (.int .i64 0) := y3
  refine wp_region_lexH (fun W => W.cell? ⟨g4, o4, none⟩ = some (.int .i64 a) ∧ W.cell? ⟨g4, o4 + 1, none⟩ = some (.int .i64 b) ∧ W.cell? ⟨g4, o4 + 2, none⟩ = some (.int .i64 c) ∧ W.cell? ⟨g4, o4 + 3, none⟩ = some (.int .i64 0)) [15] [14] (fz1 14 84 zord) _ (by kernel_rfl) (by kernel_rfl) (by kernel_rfl) fz1_fl fz1_no (fz1_ok rfl ⟨rfl, fun a w => by kernel_rfl⟩) (fun W o h => ⟨cell_alloc_keep h.1 o, cell_alloc_keep h.2.1 o, cell_alloc_keep h.2.2.1 o, cell_alloc_keep h.2.2.2 o⟩) ⟨z0, z1, z2, z3⟩ H4.out.drew ?_
  clear y0 y1 y2 y3 z0 z1 z2 z3
  repeat (first | (refine LexHL.still (v := ?_) (by rfl) (by rfl) ?_ ?_; rotate_left; (focus (intro W hW; (try dsimp only at hW); go_simp; (try (with_reducible rfl)); done)); (try simp only [Act.put, List.setIfInBounds_toArray, List.set_cons_zero, List.set_cons_succ])))
  refine LexHL.made rfl ?_
  intro q1 hlv
  clear hlv
  try simp only [Act.put, List.setIfInBounds_toArray, List.set_cons_zero, List.set_cons_succ]
  refine LexHL.storeB (q := q1) (t := 84) (cs := zord) (B := rw_ 3 1 (.slice (some ⟨g4, o4, none⟩) (3 + 3) c4) (3 + 3) (ivs [a, b, c] ++ ivs [0, 0, 0]) * (bl q0 84 zord * R)) 84 _ _ rfl [.int .i64 4, .int .i64 0, .int .i64 a, .int .i64 b, .int .i64 c, .int .i64 0] rfl rfl rfl (by kernel_rfl) (by simp [Ones, Value.oneCell']) rfl rfl (by decide) rfl (fun W R2 h => ⟨by simpa using row_cells h.left.right (by simp) 0 _ rfl, row_cells h.left.right (by simp) 1 _ rfl, row_cells h.left.right (by simp) 2 _ rfl, row_cells h.left.right (by simp) 3 _ rfl⟩) ?_
  try simp only [Act.put, List.setIfInBounds_toArray, List.set_cons_zero, List.set_cons_succ]
  refine LexHL.done ?_
  intro W hS hA hq
  have HA := Lib.hid hA; have QA := Lib.hid (Q4.out.drew.trans hq)
  obtain ⟨z0, z1, z2, z3⟩ := hS
  clear hA hq
  have cq := HA.out.bl.cells; have fq := HA.out.bl.frees
  have HB := Lib.hid (HA.out.setB 5 (.int .i64 0)); have QB := Lib.hid (QA.out.setCell ⟨q1, 5, none⟩ (.int .i64 0))
  go_wp2_with (first | (refine wpList_load_whole rfl 84 _ rfl q1 rfl [.int .i64 4, .int .i64 0, .int .i64 a, .int .i64 b, .int .i64 c, .int .i64 0] HB.out.bl Tryz.underlying84 rfl (by kernel_rfl) ?_) | (refine wpList_store_whole rfl 84 _ _ rfl q0 [.int .i64 4, .int .i64 0, .int .i64 a, .int .i64 b, .int .i64 c, .int .i64 0] rfl rfl HB.out.three.bl rfl (by kernel_rfl) (by simp [Ones, Value.oneCell']) ?_; intro w6 h1' h2' h3'; have HE := Lib.hid (HB.out.three.grown h2' h1'); have QE := Lib.hid (QB.out.trans (Quiet.grown h2')); clear h1' h2' h3'))
  have hl := run_load_part (P := Tryz.prog) (off := 0) (ty := 84) (vs := [.int .i64 4, .int .i64 0, .int .i64 a, .int .i64 b, .int .i64 c, .int .i64 0]) HE.out.bl rfl Tryz.underlying84 rfl (by kernel_rfl)
  exact bodyPost_ret (results_mix rfl rfl rfl hl) rfl ⟨rfl, QE.out, HE.out.right.right.right⟩
set_option maxHeartbeats 4000000 in
theorem order_drop (v : Value) (a b c : Int) (w : World) (hv : RowAt w v 3 (ivs [a, b, c])) {R : HP} (h : Holds w R) :
    Calls Tryz.prog 42 #[.string (strOf tDrop), v] w (PostN w R (.tuple #[.agg #[.int .i64 5, .int .i64 0, .int .i64 a, .int .i64 b, .int .i64 c, .int .i64 0], .bool true])) := by
  obtain ⟨va, vc, rfl, -, -⟩ := hv.shape
  have HV := Lib.hid hv
  obtain ⟨i0, hi, hz0, hz1, hz2⟩ := info_parts Tryz.infoI64
  have HI := Lib.hid hi; have HZ0 := Lib.hid hz0; have HZ1 := Lib.hid hz1; have HZ2 := Lib.hid hz2
  clear hi hz0 hz1 hz2
  have HX := Lib.hid kidx_drop
  obtain ⟨w1, hw1, H1, Q1⟩ : ∃ w1, w.alloc (.cells #[.int .i64 0, .int .i64 0, .int .i64 0, .int .i64 0, .int .i64 0, .int .i64 0] 84) = w1 ∧ Hid (Holds w1 (bl w.heap.size 84 zord * R)) ∧ Hid (Quiet w w1) :=
    ⟨_, rfl, Lib.hid (h.boxB (ty := 84) (cs := zord) rfl), Lib.hid ((Quiet.refl w).alloc _)⟩
  have hv1 : RowAt w1 (.slice va 3 vc) 3 (ivs [a, b, c]) := hw1 ▸ hv.alloc _
  have HV1 := Lib.hid hv1
  clear hv hv1 h
  obtain ⟨q0, hq0⟩ : ∃ q0, w.heap.size = q0 := ⟨_, rfl⟩
  rw [hq0] at H1
  go_enter Tryz.func42, Tryz.ntmps42
  go_wp2_with fail
  clear hw1 hq0
  refine (index_sl _ kwords tDrop _ (kwords_row rfl _ rfl _) (by decide) (by decide)).mono ?_
  rw [HX.out]
  rintro e w2 ⟨rfl, rfl⟩
  have H2 := Lib.hid ((H1.out.alloc (.cells (svls kwords).toArray 9)).alloc (.cells #[.int .i64 0, .int .i64 1, .int .i64 2, .int .i64 4, .int .i64 3, .int .i64 3] 3))
  go_wp2_with fail
  refine (clone_sl _ [a, b, c] _ ((HV1.out.alloc _).alloc _) (by simp) (by simp) H2.out).mono ?_
  rintro e w3 ⟨v3, rfl, q3, h3⟩
  obtain ⟨g3, o3, c3, rfl, -, -, -⟩ := h3.row.get (by simp)
  have H3 := Lib.hid (h3.alloc (.cells #[.int .i64 0, .int .i64 0, .int .i64 0] 3))
  have Q3 := Lib.hid ((Q1.out.trans (((Quiet.refl _).alloc _).alloc _)).trans q3)
  clear h3 q3
  go_wp2_with (at_builtin; refine wpList_append_sl (n := 3) (m := 3) rfl _ _ 70 rfl 3 i0 _ 1 8 Tryz.underlying70 HI.out HZ0.out HZ1.out HZ2.out rfl (by decide) rfl rfl H3.out (ivs_row (l := [0, 0, 0]) rfl (by simp) _ rfl _) rfl (ivs_ones [0, 0, 0]) (by omega) (by omega) ?_; intro v4 w4 h4 q4; obtain ⟨g4, o4, c4, rfl, -, -, hc⟩ := h4.row.get (by simp); have H4 := Lib.hid h4; have Q4 := Lib.hid (Q3.out.trans (((Quiet.refl _).alloc _).trans q4)); have y0 := hc 0 _ rfl; have y1 := hc 1 _ rfl; have y2 := hc 2 _ rfl; have y3 := hc 3 _ rfl; clear hc h4 q4)
  have z0 : w4.drew.cell? ⟨g4, o4, none⟩ = some (.int .i64 a) := y0
  have z1 : w4.drew.cell? ⟨g4, o4 + 1, none⟩ = some (.int .i64 b) := y1
  have z2 : w4.drew.cell? ⟨g4, o4 + 2, none⟩ = some (.int .i64 c) := y2
  have z3 : w4.drew.cell? ⟨g4, o4 + 3, none⟩ = some (.int .i64 0) := y3
  refine wp_region_lexH (fun W => W.cell? ⟨g4, o4, none⟩ = some (.int .i64 a) ∧ W.cell? ⟨g4, o4 + 1, none⟩ = some (.int .i64 b) ∧ W.cell? ⟨g4, o4 + 2, none⟩ = some (.int .i64 c) ∧ W.cell? ⟨g4, o4 + 3, none⟩ = some (.int .i64 0)) [15] [14] (fz1 14 84 zord) _ (by kernel_rfl) (by kernel_rfl) (by kernel_rfl) fz1_fl fz1_no (fz1_ok rfl ⟨rfl, fun a w => by kernel_rfl⟩) (fun W o h => ⟨cell_alloc_keep h.1 o, cell_alloc_keep h.2.1 o, cell_alloc_keep h.2.2.1 o, cell_alloc_keep h.2.2.2 o⟩) ⟨z0, z1, z2, z3⟩ H4.out.drew ?_
  clear y0 y1 y2 y3 z0 z1 z2 z3
  repeat (first | (refine LexHL.still (v := ?_) (by rfl) (by rfl) ?_ ?_; rotate_left; (focus (intro W hW; (try dsimp only at hW); go_simp; (try (with_reducible rfl)); done)); (try simp only [Act.put, List.setIfInBounds_toArray, List.set_cons_zero, List.set_cons_succ])))
  refine LexHL.made rfl ?_
  intro q1 hlv
  clear hlv
  try simp only [Act.put, List.setIfInBounds_toArray, List.set_cons_zero, List.set_cons_succ]
  refine LexHL.storeB (q := q1) (t := 84) (cs := zord) (B := rw_ 3 1 (.slice (some ⟨g4, o4, none⟩) (3 + 3) c4) (3 + 3) (ivs [a, b, c] ++ ivs [0, 0, 0]) * (bl q0 84 zord * R)) 84 _ _ rfl [.int .i64 5, .int .i64 0, .int .i64 a, .int .i64 b, .int .i64 c, .int .i64 0] rfl rfl rfl (by kernel_rfl) (by simp [Ones, Value.oneCell']) rfl rfl (by decide) rfl (fun W R2 h => ⟨by simpa using row_cells h.left.right (by simp) 0 _ rfl, row_cells h.left.right (by simp) 1 _ rfl, row_cells h.left.right (by simp) 2 _ rfl, row_cells h.left.right (by simp) 3 _ rfl⟩) ?_
  try simp only [Act.put, List.setIfInBounds_toArray, List.set_cons_zero, List.set_cons_succ]
  refine LexHL.done ?_
  intro W hS hA hq
  have HA := Lib.hid hA; have QA := Lib.hid (Q4.out.drew.trans hq)
  obtain ⟨z0, z1, z2, z3⟩ := hS
  clear hA hq
  have cq := HA.out.bl.cells; have fq := HA.out.bl.frees
  have HB := Lib.hid (HA.out.setB 5 (.int .i64 0)); have QB := Lib.hid (QA.out.setCell ⟨q1, 5, none⟩ (.int .i64 0))
  go_wp2_with (first | (refine wpList_load_whole rfl 84 _ rfl q1 rfl [.int .i64 5, .int .i64 0, .int .i64 a, .int .i64 b, .int .i64 c, .int .i64 0] HB.out.bl Tryz.underlying84 rfl (by kernel_rfl) ?_) | (refine wpList_store_whole rfl 84 _ _ rfl q0 [.int .i64 5, .int .i64 0, .int .i64 a, .int .i64 b, .int .i64 c, .int .i64 0] rfl rfl HB.out.three.bl rfl (by kernel_rfl) (by simp [Ones, Value.oneCell']) ?_; intro w6 h1' h2' h3'; have HE := Lib.hid (HB.out.three.grown h2' h1'); have QE := Lib.hid (QB.out.trans (Quiet.grown h2')); clear h1' h2' h3'))
  have hl := run_load_part (P := Tryz.prog) (off := 0) (ty := 84) (vs := [.int .i64 5, .int .i64 0, .int .i64 a, .int .i64 b, .int .i64 c, .int .i64 0]) HE.out.bl rfl Tryz.underlying84 rfl (by kernel_rfl)
  exact bodyPost_ret (results_mix rfl rfl rfl hl) rfl ⟨rfl, QE.out, HE.out.right.right.right⟩
end Go.Proofs.YtfihmpkkpgmdhaaGreatDoor

/-
  desk.order: what is no order; its contract whole.
-/
namespace Go.Proofs.YtfihmpkkpgmdhaaGreatDoor
set_option maxRecDepth 100000
set_option linter.unusedSimpArgs false
set_option linter.unusedVariables false
set_option linter.unnecessarySimpa false
open Go.RowKit
set_option maxHeartbeats 2000000 in
theorem ordno_add (v : Value) (l : List Int) (w : World) (hv : RowAt w v l.length (ivs l)) (hne : l.length ≠ 1) {R : HP} (h : Holds w R) :
    Calls Tryz.prog 42 #[.string (strOf tAdd), v] w (PostN w R (.tuple #[.agg #[.int .i64 0, .int .i64 0, .int .i64 0, .int .i64 0, .int .i64 0, .int .i64 0], .bool false])) := by
  obtain ⟨va, vc, rfl, -, -⟩ := hv.shape
  have HX := Lib.hid (kidx_add)
  have hne0 : ¬ (l.length : Int) = 1 := by omega
  have hne1 : ((l.length : Int) != 1) = true := by simpa using hne0
  obtain ⟨w1, hw1, H1, Q1⟩ : ∃ w1, w.alloc (.cells #[.int .i64 0, .int .i64 0, .int .i64 0, .int .i64 0, .int .i64 0, .int .i64 0] 84) = w1 ∧ Hid (Holds w1 (bl w.heap.size 84 zord * R)) ∧ Hid (Quiet w w1) :=
    ⟨_, rfl, Lib.hid (h.boxB (ty := 84) (cs := zord) rfl), Lib.hid ((Quiet.refl w).alloc _)⟩
  clear hv h
  obtain ⟨q0, hq0⟩ : ∃ q0, w.heap.size = q0 := ⟨_, rfl⟩
  rw [hq0] at H1
  go_enter Tryz.func42, Tryz.ntmps42
  go_wp2_with fail
  clear hw1 hq0
  refine (index_sl _ kwords tAdd _ (kwords_row rfl _ rfl _) (by decide) (by decide)).mono ?_
  rw [HX.out]
  rintro e w2 ⟨rfl, rfl⟩
  have H2 := Lib.hid ((H1.out.alloc (.cells (svls kwords).toArray 9)).alloc (.cells #[.int .i64 0, .int .i64 1, .int .i64 2, .int .i64 4, .int .i64 3, .int .i64 3] 3))
  go_wp2_with (refine wpList_store_whole rfl 84 _ _ rfl q0 zord rfl rfl H2.out.bl rfl (by kernel_rfl) (by simp [Ones, zord, Value.oneCell']) ?_; intro w6 h1' h2' h3'; have HE := Lib.hid (H2.out.grown h2' h1'); have QE := Lib.hid ((Q1.out.trans (((Quiet.refl _).alloc _).alloc _)).trans (Quiet.grown h2')); clear h1' h2' h3')
  have hl := run_load_part (P := Tryz.prog) (off := 0) (ty := 84) (vs := zord) HE.out.bl rfl Tryz.underlying84 rfl (by kernel_rfl)
  exact bodyPost_ret (results_mix rfl rfl rfl hl) rfl ⟨rfl, QE.out, HE.out.right⟩
set_option maxHeartbeats 2000000 in
theorem ordno_take (v : Value) (l : List Int) (w : World) (hv : RowAt w v l.length (ivs l)) (hne : l.length ≠ 2) {R : HP} (h : Holds w R) :
    Calls Tryz.prog 42 #[.string (strOf tTake), v] w (PostN w R (.tuple #[.agg #[.int .i64 0, .int .i64 0, .int .i64 0, .int .i64 0, .int .i64 0, .int .i64 0], .bool false])) := by
  obtain ⟨va, vc, rfl, -, -⟩ := hv.shape
  have HX := Lib.hid (kidx_take)
  have hne0 : ¬ (l.length : Int) = 2 := by omega
  have hne1 : ((l.length : Int) != 2) = true := by simpa using hne0
  obtain ⟨w1, hw1, H1, Q1⟩ : ∃ w1, w.alloc (.cells #[.int .i64 0, .int .i64 0, .int .i64 0, .int .i64 0, .int .i64 0, .int .i64 0] 84) = w1 ∧ Hid (Holds w1 (bl w.heap.size 84 zord * R)) ∧ Hid (Quiet w w1) :=
    ⟨_, rfl, Lib.hid (h.boxB (ty := 84) (cs := zord) rfl), Lib.hid ((Quiet.refl w).alloc _)⟩
  clear hv h
  obtain ⟨q0, hq0⟩ : ∃ q0, w.heap.size = q0 := ⟨_, rfl⟩
  rw [hq0] at H1
  go_enter Tryz.func42, Tryz.ntmps42
  go_wp2_with fail
  clear hw1 hq0
  refine (index_sl _ kwords tTake _ (kwords_row rfl _ rfl _) (by decide) (by decide)).mono ?_
  rw [HX.out]
  rintro e w2 ⟨rfl, rfl⟩
  have H2 := Lib.hid ((H1.out.alloc (.cells (svls kwords).toArray 9)).alloc (.cells #[.int .i64 0, .int .i64 1, .int .i64 2, .int .i64 4, .int .i64 3, .int .i64 3] 3))
  go_wp2_with (refine wpList_store_whole rfl 84 _ _ rfl q0 zord rfl rfl H2.out.bl rfl (by kernel_rfl) (by simp [Ones, zord, Value.oneCell']) ?_; intro w6 h1' h2' h3'; have HE := Lib.hid (H2.out.grown h2' h1'); have QE := Lib.hid ((Q1.out.trans (((Quiet.refl _).alloc _).alloc _)).trans (Quiet.grown h2')); clear h1' h2' h3')
  have hl := run_load_part (P := Tryz.prog) (off := 0) (ty := 84) (vs := zord) HE.out.bl rfl Tryz.underlying84 rfl (by kernel_rfl)
  exact bodyPost_ret (results_mix rfl rfl rfl hl) rfl ⟨rfl, QE.out, HE.out.right⟩
set_option maxHeartbeats 2000000 in
theorem ordno_renew (v : Value) (l : List Int) (w : World) (hv : RowAt w v l.length (ivs l)) (hne : l.length ≠ 4) {R : HP} (h : Holds w R) :
    Calls Tryz.prog 42 #[.string (strOf tRenew), v] w (PostN w R (.tuple #[.agg #[.int .i64 0, .int .i64 0, .int .i64 0, .int .i64 0, .int .i64 0, .int .i64 0], .bool false])) := by
  obtain ⟨va, vc, rfl, -, -⟩ := hv.shape
  have HX := Lib.hid (kidx_renew)
  have hne0 : ¬ (l.length : Int) = 4 := by omega
  have hne1 : ((l.length : Int) != 4) = true := by simpa using hne0
  obtain ⟨w1, hw1, H1, Q1⟩ : ∃ w1, w.alloc (.cells #[.int .i64 0, .int .i64 0, .int .i64 0, .int .i64 0, .int .i64 0, .int .i64 0] 84) = w1 ∧ Hid (Holds w1 (bl w.heap.size 84 zord * R)) ∧ Hid (Quiet w w1) :=
    ⟨_, rfl, Lib.hid (h.boxB (ty := 84) (cs := zord) rfl), Lib.hid ((Quiet.refl w).alloc _)⟩
  clear hv h
  obtain ⟨q0, hq0⟩ : ∃ q0, w.heap.size = q0 := ⟨_, rfl⟩
  rw [hq0] at H1
  go_enter Tryz.func42, Tryz.ntmps42
  go_wp2_with fail
  clear hw1 hq0
  refine (index_sl _ kwords tRenew _ (kwords_row rfl _ rfl _) (by decide) (by decide)).mono ?_
  rw [HX.out]
  rintro e w2 ⟨rfl, rfl⟩
  have H2 := Lib.hid ((H1.out.alloc (.cells (svls kwords).toArray 9)).alloc (.cells #[.int .i64 0, .int .i64 1, .int .i64 2, .int .i64 4, .int .i64 3, .int .i64 3] 3))
  go_wp2_with (refine wpList_store_whole rfl 84 _ _ rfl q0 zord rfl rfl H2.out.bl rfl (by kernel_rfl) (by simp [Ones, zord, Value.oneCell']) ?_; intro w6 h1' h2' h3'; have HE := Lib.hid (H2.out.grown h2' h1'); have QE := Lib.hid ((Q1.out.trans (((Quiet.refl _).alloc _).alloc _)).trans (Quiet.grown h2')); clear h1' h2' h3')
  have hl := run_load_part (P := Tryz.prog) (off := 0) (ty := 84) (vs := zord) HE.out.bl rfl Tryz.underlying84 rfl (by kernel_rfl)
  exact bodyPost_ret (results_mix rfl rfl rfl hl) rfl ⟨rfl, QE.out, HE.out.right⟩
set_option maxHeartbeats 2000000 in
theorem ordno_done (v : Value) (l : List Int) (w : World) (hv : RowAt w v l.length (ivs l)) (hne : l.length ≠ 3) {R : HP} (h : Holds w R) :
    Calls Tryz.prog 42 #[.string (strOf tDone), v] w (PostN w R (.tuple #[.agg #[.int .i64 0, .int .i64 0, .int .i64 0, .int .i64 0, .int .i64 0, .int .i64 0], .bool false])) := by
  obtain ⟨va, vc, rfl, -, -⟩ := hv.shape
  have HX := Lib.hid (kidx_done)
  have hne0 : ¬ (l.length : Int) = 3 := by omega
  have hne1 : ((l.length : Int) != 3) = true := by simpa using hne0
  obtain ⟨w1, hw1, H1, Q1⟩ : ∃ w1, w.alloc (.cells #[.int .i64 0, .int .i64 0, .int .i64 0, .int .i64 0, .int .i64 0, .int .i64 0] 84) = w1 ∧ Hid (Holds w1 (bl w.heap.size 84 zord * R)) ∧ Hid (Quiet w w1) :=
    ⟨_, rfl, Lib.hid (h.boxB (ty := 84) (cs := zord) rfl), Lib.hid ((Quiet.refl w).alloc _)⟩
  clear hv h
  obtain ⟨q0, hq0⟩ : ∃ q0, w.heap.size = q0 := ⟨_, rfl⟩
  rw [hq0] at H1
  go_enter Tryz.func42, Tryz.ntmps42
  go_wp2_with fail
  clear hw1 hq0
  refine (index_sl _ kwords tDone _ (kwords_row rfl _ rfl _) (by decide) (by decide)).mono ?_
  rw [HX.out]
  rintro e w2 ⟨rfl, rfl⟩
  have H2 := Lib.hid ((H1.out.alloc (.cells (svls kwords).toArray 9)).alloc (.cells #[.int .i64 0, .int .i64 1, .int .i64 2, .int .i64 4, .int .i64 3, .int .i64 3] 3))
  go_wp2_with (refine wpList_store_whole rfl 84 _ _ rfl q0 zord rfl rfl H2.out.bl rfl (by kernel_rfl) (by simp [Ones, zord, Value.oneCell']) ?_; intro w6 h1' h2' h3'; have HE := Lib.hid (H2.out.grown h2' h1'); have QE := Lib.hid ((Q1.out.trans (((Quiet.refl _).alloc _).alloc _)).trans (Quiet.grown h2')); clear h1' h2' h3')
  have hl := run_load_part (P := Tryz.prog) (off := 0) (ty := 84) (vs := zord) HE.out.bl rfl Tryz.underlying84 rfl (by kernel_rfl)
  exact bodyPost_ret (results_mix rfl rfl rfl hl) rfl ⟨rfl, QE.out, HE.out.right⟩
set_option maxHeartbeats 2000000 in
theorem ordno_drop (v : Value) (l : List Int) (w : World) (hv : RowAt w v l.length (ivs l)) (hne : l.length ≠ 3) {R : HP} (h : Holds w R) :
    Calls Tryz.prog 42 #[.string (strOf tDrop), v] w (PostN w R (.tuple #[.agg #[.int .i64 0, .int .i64 0, .int .i64 0, .int .i64 0, .int .i64 0, .int .i64 0], .bool false])) := by
  obtain ⟨va, vc, rfl, -, -⟩ := hv.shape
  have HX := Lib.hid (kidx_drop)
  have hne0 : ¬ (l.length : Int) = 3 := by omega
  have hne1 : ((l.length : Int) != 3) = true := by simpa using hne0
  obtain ⟨w1, hw1, H1, Q1⟩ : ∃ w1, w.alloc (.cells #[.int .i64 0, .int .i64 0, .int .i64 0, .int .i64 0, .int .i64 0, .int .i64 0] 84) = w1 ∧ Hid (Holds w1 (bl w.heap.size 84 zord * R)) ∧ Hid (Quiet w w1) :=
    ⟨_, rfl, Lib.hid (h.boxB (ty := 84) (cs := zord) rfl), Lib.hid ((Quiet.refl w).alloc _)⟩
  clear hv h
  obtain ⟨q0, hq0⟩ : ∃ q0, w.heap.size = q0 := ⟨_, rfl⟩
  rw [hq0] at H1
  go_enter Tryz.func42, Tryz.ntmps42
  go_wp2_with fail
  clear hw1 hq0
  refine (index_sl _ kwords tDrop _ (kwords_row rfl _ rfl _) (by decide) (by decide)).mono ?_
  rw [HX.out]
  rintro e w2 ⟨rfl, rfl⟩
  have H2 := Lib.hid ((H1.out.alloc (.cells (svls kwords).toArray 9)).alloc (.cells #[.int .i64 0, .int .i64 1, .int .i64 2, .int .i64 4, .int .i64 3, .int .i64 3] 3))
  go_wp2_with (refine wpList_store_whole rfl 84 _ _ rfl q0 zord rfl rfl H2.out.bl rfl (by kernel_rfl) (by simp [Ones, zord, Value.oneCell']) ?_; intro w6 h1' h2' h3'; have HE := Lib.hid (H2.out.grown h2' h1'); have QE := Lib.hid ((Q1.out.trans (((Quiet.refl _).alloc _).alloc _)).trans (Quiet.grown h2')); clear h1' h2' h3')
  have hl := run_load_part (P := Tryz.prog) (off := 0) (ty := 84) (vs := zord) HE.out.bl rfl Tryz.underlying84 rfl (by kernel_rfl)
  exact bodyPost_ret (results_mix rfl rfl rfl hl) rfl ⟨rfl, QE.out, HE.out.right⟩
set_option maxHeartbeats 2000000 in
theorem ordno_none (v : Value) (l : List Int) (w : World) (hv : RowAt w v l.length (ivs l)) (x : List UInt8) (hx : x ∉ kwords) {R : HP} (h : Holds w R) :
    Calls Tryz.prog 42 #[.string (strOf x), v] w (PostN w R (.tuple #[.agg #[.int .i64 0, .int .i64 0, .int .i64 0, .int .i64 0, .int .i64 0, .int .i64 0], .bool false])) := by
  obtain ⟨va, vc, rfl, -, -⟩ := hv.shape
  have HX := Lib.hid (idx_miss hx)
  obtain ⟨w1, hw1, H1, Q1⟩ : ∃ w1, w.alloc (.cells #[.int .i64 0, .int .i64 0, .int .i64 0, .int .i64 0, .int .i64 0, .int .i64 0] 84) = w1 ∧ Hid (Holds w1 (bl w.heap.size 84 zord * R)) ∧ Hid (Quiet w w1) :=
    ⟨_, rfl, Lib.hid (h.boxB (ty := 84) (cs := zord) rfl), Lib.hid ((Quiet.refl w).alloc _)⟩
  clear hv h
  obtain ⟨q0, hq0⟩ : ∃ q0, w.heap.size = q0 := ⟨_, rfl⟩
  rw [hq0] at H1
  go_enter Tryz.func42, Tryz.ntmps42
  go_wp2_with fail
  clear hw1 hq0
  refine (index_sl _ kwords x _ (kwords_row rfl _ rfl _) (by decide) (by decide)).mono ?_
  rw [HX.out]
  rintro e w2 ⟨rfl, rfl⟩
  have H2 := Lib.hid ((H1.out.alloc (.cells (svls kwords).toArray 9)).alloc (.cells #[.int .i64 0, .int .i64 1, .int .i64 2, .int .i64 4, .int .i64 3, .int .i64 3] 3))
  go_wp2_with (refine wpList_store_whole rfl 84 _ _ rfl q0 zord rfl rfl H2.out.bl rfl (by kernel_rfl) (by simp [Ones, zord, Value.oneCell']) ?_; intro w6 h1' h2' h3'; have HE := Lib.hid (H2.out.grown h2' h1'); have QE := Lib.hid ((Q1.out.trans (((Quiet.refl _).alloc _).alloc _)).trans (Quiet.grown h2')); clear h1' h2' h3')
  have hl := run_load_part (P := Tryz.prog) (off := 0) (ty := 84) (vs := zord) HE.out.bl rfl Tryz.underlying84 rfl (by kernel_rfl)
  exact bodyPost_ret (results_mix rfl rfl rfl hl) rfl ⟨rfl, QE.out, HE.out.right⟩
theorem order_sl (v : Value) (x : List UInt8) (l : List Int) (o : Ord) (w : World) (hv : RowAt w v l.length (ivs l)) (ho : orderOf x l = some o) {R : HP} (h : Holds w R) :
    Calls Tryz.prog 42 #[.string (strOf x), v] w (PostN w R (.tuple #[oval o, .bool true])) := by
  unfold orderOf at ho
  split at ho
  · rename_i e; subst e
    split at ho
    · obtain rfl := Option.some.inj ho; exact order_add v _ w hv h
    · cases ho
  split at ho
  · rename_i e; subst e
    split at ho
    · obtain rfl := Option.some.inj ho; exact order_take v _ _ w hv h
    · cases ho
  split at ho
  · rename_i e; subst e
    split at ho
    · obtain rfl := Option.some.inj ho; exact order_renew v _ _ _ _ w hv h
    · cases ho
  split at ho
  · rename_i e; subst e
    split at ho
    · obtain rfl := Option.some.inj ho; exact order_done v _ _ _ w hv h
    · cases ho
  split at ho
  · rename_i e; subst e
    split at ho
    · obtain rfl := Option.some.inj ho; exact order_drop v _ _ _ w hv h
    · cases ho
  cases ho
theorem order_no (v : Value) (x : List UInt8) (l : List Int) (w : World) (hv : RowAt w v l.length (ivs l)) (hx : x ≠ []) (ho : orderOf x l = none) {R : HP} (h : Holds w R) :
    Calls Tryz.prog 42 #[.string (strOf x), v] w (PostN w R (.tuple #[.agg #[.int .i64 0, .int .i64 0, .int .i64 0, .int .i64 0, .int .i64 0, .int .i64 0], .bool false])) := by
  unfold orderOf at ho
  by_cases e1 : x = tAdd
  · subst e1
    refine ordno_add v l w hv (fun hn => ?_) h
    match l, hn with
    | [a], _ => simp at ho
  by_cases e2 : x = tTake
  · subst e2
    refine ordno_take v l w hv (fun hn => ?_) h
    match l, hn with
    | [a, b], _ => rw [if_neg e1] at ho; simp at ho
  by_cases e3 : x = tRenew
  · subst e3
    refine ordno_renew v l w hv (fun hn => ?_) h
    match l, hn with
    | [a, b, c, d], _ => rw [if_neg e1, if_neg e2] at ho; simp at ho
  by_cases e4 : x = tDone
  · subst e4
    refine ordno_done v l w hv (fun hn => ?_) h
    match l, hn with
    | [a, b, c], _ => rw [if_neg e1, if_neg e2, if_neg e3] at ho; simp at ho
  by_cases e5 : x = tDrop
  · subst e5
    refine ordno_drop v l w hv (fun hn => ?_) h
    match l, hn with
    | [a, b, c], _ => rw [if_neg e1, if_neg e2, if_neg e3, if_neg e4] at ho; simp at ho
  exact ordno_none v l w hv x (by simp [kwords, hx, e1, e2, e3, e4, e5]) h
end Go.Proofs.YtfihmpkkpgmdhaaGreatDoor

/-
  The package guild, walked: Node, Now, New, open.
-/
namespace Go.Proofs.YtfihmpkkpgmdhaaGreatDoor
set_option linter.unusedSimpArgs false
set_option linter.unusedVariables false
open Go.RowKit
def gld (bg : Nat) (g : Gld) : HP := HP.ex fun x : Nat × (Nat → Value) => gblk bg x.1 x.2 g.now * (dsk x.1 g.d * nodes3 x.1 x.2 g.f)
theorem gld_open {bg : Nat} {g : Gld} {R : HP} {w : World} (h : Holds w (gld bg g * R)) : ∃ bd vs, Holds w (gblk bg bd vs g.now * (dsk bd g.d * (nodes3 bd vs g.f * R))) := by
  obtain ⟨⟨bd, vs⟩, h⟩ := HP.ex_mul h
  exact ⟨bd, vs, h.eq (by simp only [HP.assoc])⟩
theorem gld_close {bg bd : Nat} {vs : Nat → Value} {g : Gld} {R : HP} {w : World} (h : Holds w (gblk bg bd vs g.now * (dsk bd g.d * (nodes3 bd vs g.f * R)))) : Holds w (gld bg g * R) :=
  HP.mul_ex (A := fun x : Nat × (Nat → Value) => gblk bg x.1 x.2 g.now * (dsk x.1 g.d * nodes3 x.1 x.2 g.f)) (x := (bd, vs)) (h.eq (by simp only [HP.assoc]))
theorem gNew_sl (w : World) {R : HP} (h : Holds w R) : Calls Tryz.prog 12 #[] w (PostX w R (fun b : Nat => .pointer (some ⟨b, 0, none⟩)) fun b => gld b Gld.zero) := by
  have H := Lib.hid h; clear h
  go_enter Tryz.func12, Tryz.ntmps12
  go_wp2_with fail
  refine (dnew_sl _ H.out).mono ?_
  rintro e w1 ⟨bd, rfl, q1, h1⟩
  have H1 := Lib.hid (show Holds w1 (dsk bd Dsk.zero * R) from h1); have Q1 := Lib.hid q1; clear h1 q1
  go_wp2
  go_ret
  refine ⟨_, rfl, Q1.out.alloc _, gld_close (bd := bd) (vs := fun _ => .pointer none) (((H1.out.right.eq rfl |> fun _ => H1.out).boxB (ty := 65) (cs := gcells bd (fun _ => .pointer none) 0) rfl).imp (fun F h => h) |> fun h => ?_)⟩
  have h2 : Holds _ (gblk w1.heap.size bd (fun _ => .pointer none) 0 * (dsk bd Dsk.zero * R)) := h
  have h3 := (onod_mkNone (bd := bd) (onod_mkNone (bd := bd) (onod_mkNone (bd := bd) (h2.eq (by ac_rfl : _ = R * (gblk w1.heap.size bd (fun _ => .pointer none) 0 * dsk bd Dsk.zero))))))
  exact h3.eq (by unfold nodes3; simp only [Gld.zero]; ac_rfl)
theorem gNow_sl (bg bd : Nat) (vs : Nat → Value) (now : Int) (w : World) {R : HP} (h : Holds w (gblk bg bd vs now * R)) : Calls Tryz.prog 53 #[.pointer (some ⟨bg, 0, none⟩)] w fun e w' => e = .returned (.int .i64 now) ∧ w = w' := by
  have c := (show BlockAt w bg 65 (gcells bd vs now) from h.bl).cells
  simp only [gcells] at c
  clear h
  go_enter Tryz.func53, Tryz.ntmps53
  go_wp2
  go_ret
  exact ⟨rfl, rfl⟩
def gAt (vs : Nat → Value) (n : Int) : Value := if n < 0 ∨ 3 ≤ n then .pointer none else vs n.toNat
theorem gNode_sl (bg bd : Nat) (vs : Nat → Value) (now n : Int) (w : World) {R : HP} (h : Holds w (gblk bg bd vs now * R)) : Calls Tryz.prog 47 #[.pointer (some ⟨bg, 0, none⟩), .int .i64 n] w fun e w' => e = .returned (gAt vs n) ∧ w = w' := by
  have hb : BlockAt w bg 65 (gcells bd vs now) := h.bl
  clear h
  by_cases h0 : n < 0
  · have e : gAt vs n = .pointer none := by unfold gAt; rw [if_pos (.inl h0)]
    rw [e]; clear e hb
    go_enter Tryz.func47, Tryz.ntmps47
    go_wp2
    go_ret
    exact ⟨rfl, rfl⟩
  · by_cases h3 : 3 ≤ n
    · have e : gAt vs n = .pointer none := by unfold gAt; rw [if_pos (.inr h3)]
      rw [e]; clear e hb
      go_enter Tryz.func47, Tryz.ntmps47
      go_wp2
      go_ret
      exact ⟨rfl, rfl⟩
    · obtain ⟨k, rfl⟩ := Int.eq_ofNat_of_zero_le (show 0 ≤ n by omega)
      have hk : k < 3 := by omega
      have e : gAt vs k = vs k := by unfold gAt; rw [if_neg (by omega)]; rfl
      have ck := hb.cell _ _ (gcells_get bd vs now hk)
      obtain ⟨u, hu⟩ : ∃ u, vs k = u := ⟨_, rfl⟩
      rw [hu] at e ck
      rw [e]; clear e hb h0 h3 hu
      go_enter Tryz.func47, Tryz.ntmps47
      go_wp2
      go_ret
      exact ⟨rfl, rfl⟩
theorem gopen_bad (bg : Nat) (n : Int) (w : World) (h : n < 0 ∨ 3 ≤ n) : Calls Tryz.prog 73 #[.pointer (some ⟨bg, 0, none⟩), .int .i64 n] w fun e w' => e = .returned (.int .i64 3) ∧ w = w' := by
  rcases h with h | h
  · go_enter Tryz.func73, Tryz.ntmps73
    go_wp2
    go_ret
    exact ⟨rfl, rfl⟩
  · have h0 : ¬ n < 0 := by omega
    go_enter Tryz.func73, Tryz.ntmps73
    go_wp2
    go_ret
    exact ⟨rfl, rfl⟩
set_option maxRecDepth 100000 in
set_option maxHeartbeats 4000000 in
theorem gopen_full (bg bd : Nat) (vs : Nat → Value) (now : Int) (d : Dsk) (k : Nat) (w : World) {R : HP} (h : Holds w (gblk bg bd vs now * (dsk bd d * R))) (hk : k < 3) (hd : d.Ok) (hc : 100 ≤ d.ep) :
    Calls Tryz.prog 73 #[.pointer (some ⟨bg, 0, none⟩), .int .i64 k] w (Post w (dsk bd d * R) (.int .i64 8) (gblk bg bd vs now)) := by
  have c := (show BlockAt w bg 65 (gcells bd vs now) from h.bl).cell 0 _ rfl
  have H := Lib.hid h; have HD := Lib.hid hd; have HC := Lib.hid hc
  clear h hd hc
  go_enter Tryz.func73, Tryz.ntmps73
  go_wp2_with fail
  refine (nOpen_full bd d _ H.out.two HD.out HC.out).mono ?_
  rintro e w1 ⟨rfl, q1, h1⟩
  have H1 := Lib.hid h1; have Q1 := Lib.hid q1; clear h1 q1
  go_wp2
  go_ret
  exact ⟨rfl, Q1.out, H1.out.two⟩
set_option maxRecDepth 100000 in
set_option maxHeartbeats 4000000 in
theorem gopen_ok (bg bd : Nat) (vs : Nat → Value) (f : Nat → Option Nod) (now : Int) (d : Dsk) (k : Nat) (w : World) {R : HP} (h : Holds w (gblk bg bd vs now * (dsk bd d * (nodes3 bd vs f * R)))) (hk : k < 3) (hd : d.Ok) (hc : ¬ 100 ≤ d.ep) :
    Calls Tryz.prog 73 #[.pointer (some ⟨bg, 0, none⟩), .int .i64 k] w fun e w' => e = .returned (.int .i64 0) ∧ Quiet w w' ∧ ∃ vs' : Nat → Value, Holds w' (gblk bg bd vs' now * (dsk bd (opened d).1 * (nodes3 bd vs' (putN f k ⟨behind (found d), d.ep + 1, false⟩) * R))) := by
  have c := (show BlockAt w bg 65 (gcells bd vs now) from h.bl).cell 0 _ rfl
  have H := Lib.hid h; have HD := Lib.hid hd; have HC := Lib.hid hc
  clear h hd hc
  obtain ⟨d9, hd9⟩ : ∃ d9, (opened d).1 = d9 := ⟨_, rfl⟩
  obtain ⟨n9, hn9⟩ : ∃ n9 : Nod, ⟨behind (found d), d.ep + 1, false⟩ = n9 := ⟨_, rfl⟩
  rw [hd9, hn9]
  have HD9 := Lib.hid hd9; have HN9 := Lib.hid hn9
  clear hd9 hn9
  go_enter Tryz.func73, Tryz.ntmps73
  go_wp2_with fail
  refine (nOpen_sl bd d _ H.out.two HD.out (by have := HC.out; omega)).mono ?_
  rw [HD9.out, HN9.out]
  rintro e w1 ⟨bn, rfl, q1, h1⟩
  have h2 : Holds w1 (gblk bg bd vs now * (nod bn bd n9 * (dsk bd d9 * (nodes3 bd vs f * R)))) := (show Holds w1 (nod bn bd n9 * (dsk bd d9 * (gblk bg bd vs now * (nodes3 bd vs f * R)))) from h1).eq (by ac_rfl)
  have hb : BlockAt w1 bg 65 (gcells bd vs now) := h2.bl
  have ck := hb.cell _ _ (gcells_get bd vs now hk)
  have fk := hb.frees
  have H2 := Lib.hid h2; have Q1 := Lib.hid q1; clear h1 q1 h2 hb c H
  go_wp2
  go_ret
  refine ⟨rfl, Q1.out.setCell _ _, updV vs k (.pointer (some ⟨bn, 0, none⟩)), ?_⟩
  have h3 := H2.out.setB (1 + k) (.pointer (some ⟨bn, 0, none⟩))
  rw [gcells_set _ _ _ hk] at h3
  rw [nodes3_put _ _ _ hk]
  have h4 := (onod_mk ((h3.eq (by rw [nodes3_pick _ _ _ hk]; ac_rfl : _ = onod (vs k) bd (f k) * (nod bn bd n9 * (bl bg 65 (gcells bd (updV vs k (.pointer (some ⟨bn, 0, none⟩))) now) * (dsk bd d9 * (nrest bd vs f k * R)))))).right))
  exact h4.eq (by unfold gblk; ac_rfl)
end Go.Proofs.YtfihmpkkpgmdhaaGreatDoor

/-
  The package guild, walked: Step.
-/
namespace Go.Proofs.YtfihmpkkpgmdhaaGreatDoor
set_option linter.unusedSimpArgs false
set_option linter.unusedVariables false
open Go.RowKit
def GPost (w : World) (bg : Nat) (R : HP) (x : Gld × Ans) (e : Ending) (w' : World) : Prop := e = .returned x.2.val ∧ Quiet w w' ∧ Holds w' (gld bg x.1 * R)
def sarg (kd x kp : Int) (o : Ord) : Value := .agg #[.int .i64 kd, .int .i64 x, .int .i64 kp, .int .i64 o.kind, .int .i64 o.now, .int .i64 o.job, .int .i64 o.tr, .int .i64 o.wk, .int .i64 o.tm]
/-- What stands when the step begins. -/
def stepBox (g0 ga : Nat) (kd x kp c nw j r k m : Int) : HP := bl ga 88 [.int .i64 0, .int .i64 0, .int .i64 0] * bl g0 86 [.int .i64 kd, .int .i64 x, .int .i64 kp, .int .i64 c, .int .i64 nw, .int .i64 j, .int .i64 r, .int .i64 k, .int .i64 m]
set_option maxRecDepth 100000 in
set_option maxHeartbeats 4000000 in
theorem gStep_open (bg bd : Nat) (vs : Nat → Value) (g : Gld) (x kp c nw j r k m : Int) (w : World) {R : HP} (h : Holds w (gblk bg bd vs g.now * (dsk bd g.d * (nodes3 bd vs g.f * R)))) (hd : g.d.Ok) :
    Calls Tryz.prog 44 #[.pointer (some ⟨bg, 0, none⟩), .agg #[.int .i64 1, .int .i64 x, .int .i64 kp, .int .i64 c, .int .i64 nw, .int .i64 j, .int .i64 r, .int .i64 k, .int .i64 m]] w (GPost w bg R (g.step ⟨1, x, kp, ⟨c, nw, j, r, k, m⟩⟩)) := by
  obtain ⟨w0, hw0, H0, Q0⟩ : ∃ w0, (w.alloc (.cells #[.int .i64 1, .int .i64 x, .int .i64 kp, .int .i64 c, .int .i64 nw, .int .i64 j, .int .i64 r, .int .i64 k, .int .i64 m] 86)).alloc (.cells #[.int .i64 0, .int .i64 0, .int .i64 0] 88) = w0 ∧ Hid (Holds w0 (bl (w.heap.size + 1) 88 [.int .i64 0, .int .i64 0, .int .i64 0] * (bl w.heap.size 86 [.int .i64 1, .int .i64 x, .int .i64 kp, .int .i64 c, .int .i64 nw, .int .i64 j, .int .i64 r, .int .i64 k, .int .i64 m] * (gblk bg bd vs g.now * (dsk bd g.d * (nodes3 bd vs g.f * R)))))) ∧ Hid (Quiet w w0) :=
    ⟨_, rfl, Lib.hid ((h.boxB (ty := 86) (cs := [.int .i64 1, .int .i64 x, .int .i64 kp, .int .i64 c, .int .i64 nw, .int .i64 j, .int .i64 r, .int .i64 k, .int .i64 m]) rfl).boxB (ty := 88) (cs := [.int .i64 0, .int .i64 0, .int .i64 0]) (g := w.heap.size + 1) (by simp)), Lib.hid (((Quiet.refl w).alloc _).alloc _)⟩
  clear h
  obtain ⟨g0, hg0⟩ : ∃ g0, w.heap.size = g0 := ⟨_, rfl⟩
  rw [hg0] at H0
  obtain ⟨ga, hga⟩ : ∃ ga, g0 + 1 = ga := ⟨_, rfl⟩
  rw [hga] at H0
  have co := H0.out.two.bl.cells
  have HD := Lib.hid hd; clear hd
  obtain ⟨d, f, now⟩ := g
  dsimp only at H0 HD
  by_cases hx : x < 0 ∨ 3 ≤ x
  · have he : (⟨d, f, now⟩ : Gld).step ⟨1, x, kp, ⟨c, nw, j, r, k, m⟩⟩ = (⟨d, f, now⟩, ⟨3, 0, 0⟩) := by
      unfold Gld.step; rw [if_pos rfl, if_pos hx]
    rw [he]; clear he
    have HX := Lib.hid hx; clear hx
    go_enter Tryz.func44, Tryz.ntmps44
    go_wp2_with fail
    clear hw0 hg0 hga
    refine (gopen_bad bg x _ HX.out).mono ?_
    rintro e w1 ⟨rfl, rfl⟩
    have ca := H0.out.bl.cells
    have fa := H0.out.bl.frees
    have la := H0.out.bl.lt
    go_wp2
    have hf := ((H0.out.setB 0 (.int .i64 3)).setB 1 (.int .i64 0)).setB 2 (.int .i64 0)
    have hl := run_load_part (P := Tryz.prog) (off := 0) (ty := 88) (vs := [.int .i64 3, .int .i64 0, .int .i64 0]) hf.bl rfl Tryz.underlying88 rfl (by kernel_rfl)
    exact bodyPost_ret (results_cell1 rfl rfl hl) rfl ⟨rfl, ((Q0.out.setCell _ _).setCell _ _).setCell _ _, gld_close hf.right.right⟩
  · obtain ⟨q, rfl⟩ := Int.eq_ofNat_of_zero_le (show 0 ≤ x by omega)
    have hq : q < 3 := by omega
    by_cases hc : 100 ≤ d.ep
    · have he : (⟨d, f, now⟩ : Gld).step ⟨1, q, kp, ⟨c, nw, j, r, k, m⟩⟩ = (⟨d, f, now⟩, ⟨8, 0, 0⟩) := by
        unfold Gld.step; rw [if_pos rfl, if_neg hx, if_pos hc]
      rw [he]; clear he hx
      have HC := Lib.hid hc; clear hc
      go_enter Tryz.func44, Tryz.ntmps44
      go_wp2_with fail
      clear hw0 hg0 hga
      refine (gopen_full bg bd vs now d q _ (H0.out.eq (by ac_rfl : _ = gblk bg bd vs now * (dsk bd d * (bl ga 88 [.int .i64 0, .int .i64 0, .int .i64 0] * (bl g0 86 [.int .i64 1, .int .i64 q, .int .i64 kp, .int .i64 c, .int .i64 nw, .int .i64 j, .int .i64 r, .int .i64 k, .int .i64 m] * (nodes3 bd vs f * R)))))) hq HD.out HC.out).mono ?_
      rintro e w1 ⟨rfl, q1, h1⟩
      have h2 := h1.eq (by ac_rfl : _ = bl ga 88 [.int .i64 0, .int .i64 0, .int .i64 0] * (bl g0 86 [.int .i64 1, .int .i64 q, .int .i64 kp, .int .i64 c, .int .i64 nw, .int .i64 j, .int .i64 r, .int .i64 k, .int .i64 m] * (gblk bg bd vs now * (dsk bd d * (nodes3 bd vs f * R)))))
      have ca := h2.bl.cells
      have fa := h2.bl.frees
      have la := h2.bl.lt
      have H2 := Lib.hid h2; have Q2 := Lib.hid (Q0.out.trans q1)
      clear h1 h2 q1 co H0 Q0
      go_wp2
      have hf := ((H2.out.setB 0 (.int .i64 8)).setB 1 (.int .i64 0)).setB 2 (.int .i64 0)
      have hl := run_load_part (P := Tryz.prog) (off := 0) (ty := 88) (vs := [.int .i64 8, .int .i64 0, .int .i64 0]) hf.bl rfl Tryz.underlying88 rfl (by kernel_rfl)
      exact bodyPost_ret (results_cell1 rfl rfl hl) rfl ⟨rfl, ((Q2.out.setCell _ _).setCell _ _).setCell _ _, gld_close hf.right.right⟩
    · have he : (⟨d, f, now⟩ : Gld).step ⟨1, q, kp, ⟨c, nw, j, r, k, m⟩⟩ = (⟨(opened d).1, putN f q ⟨behind (found d), d.ep + 1, false⟩, now⟩, ⟨0, 0, 0⟩) := by
        unfold Gld.step; rw [if_pos rfl, if_neg hx, if_neg hc]; rfl
      rw [he]; clear he hx
      have HC := Lib.hid hc; clear hc
      go_enter Tryz.func44, Tryz.ntmps44
      go_wp2_with fail
      clear hw0 hg0 hga
      refine (gopen_ok bg bd vs f now d q _ (H0.out.eq (by ac_rfl : _ = gblk bg bd vs now * (dsk bd d * (nodes3 bd vs f * (bl ga 88 [.int .i64 0, .int .i64 0, .int .i64 0] * (bl g0 86 [.int .i64 1, .int .i64 q, .int .i64 kp, .int .i64 c, .int .i64 nw, .int .i64 j, .int .i64 r, .int .i64 k, .int .i64 m] * R)))))) hq HD.out (by have := HC.out; omega)).mono ?_
      rintro e w1 ⟨rfl, q1, vs', h1⟩
      have h2 := h1.eq (by ac_rfl : _ = bl ga 88 [.int .i64 0, .int .i64 0, .int .i64 0] * (bl g0 86 [.int .i64 1, .int .i64 q, .int .i64 kp, .int .i64 c, .int .i64 nw, .int .i64 j, .int .i64 r, .int .i64 k, .int .i64 m] * (gblk bg bd vs' now * (dsk bd (opened d).1 * (nodes3 bd vs' (putN f q ⟨behind (found d), d.ep + 1, false⟩) * R)))))
      have ca := h2.bl.cells
      have fa := h2.bl.frees
      have la := h2.bl.lt
      have H2 := Lib.hid h2; have Q2 := Lib.hid (Q0.out.trans q1)
      clear h1 h2 q1 co H0 Q0
      go_wp2
      have hf := ((H2.out.setB 0 (.int .i64 0)).setB 1 (.int .i64 0)).setB 2 (.int .i64 0)
      have hl := run_load_part (P := Tryz.prog) (off := 0) (ty := 88) (vs := [.int .i64 0, .int .i64 0, .int .i64 0]) hf.bl rfl Tryz.underlying88 rfl (by kernel_rfl)
      exact bodyPost_ret (results_cell1 rfl rfl hl) rfl ⟨rfl, ((Q2.out.setCell _ _).setCell _ _).setCell _ _, gld_close (g := ⟨(opened d).1, putN f q ⟨behind (found d), d.ep + 1, false⟩, now⟩) hf.right.right⟩
set_option maxRecDepth 100000 in
set_option maxHeartbeats 4000000 in
theorem gStep_kind (bg bd : Nat) (vs : Nat → Value) (g : Gld) (kd x kp c nw j r k m : Int) (w : World) {R : HP} (h : Holds w (gblk bg bd vs g.now * (dsk bd g.d * (nodes3 bd vs g.f * R)))) (h1 : kd ≠ 1) (h2 : kd ≠ 2) (h3 : kd ≠ 3) (h4 : kd ≠ 4) (h5 : kd ≠ 5) :
    Calls Tryz.prog 44 #[.pointer (some ⟨bg, 0, none⟩), .agg #[.int .i64 kd, .int .i64 x, .int .i64 kp, .int .i64 c, .int .i64 nw, .int .i64 j, .int .i64 r, .int .i64 k, .int .i64 m]] w (GPost w bg R (g.step ⟨kd, x, kp, ⟨c, nw, j, r, k, m⟩⟩)) := by
  obtain ⟨w0, hw0, H0, Q0⟩ : ∃ w0, (w.alloc (.cells #[.int .i64 kd, .int .i64 x, .int .i64 kp, .int .i64 c, .int .i64 nw, .int .i64 j, .int .i64 r, .int .i64 k, .int .i64 m] 86)).alloc (.cells #[.int .i64 0, .int .i64 0, .int .i64 0] 88) = w0 ∧ Hid (Holds w0 (bl (w.heap.size + 1) 88 [.int .i64 0, .int .i64 0, .int .i64 0] * (bl w.heap.size 86 [.int .i64 kd, .int .i64 x, .int .i64 kp, .int .i64 c, .int .i64 nw, .int .i64 j, .int .i64 r, .int .i64 k, .int .i64 m] * (gblk bg bd vs g.now * (dsk bd g.d * (nodes3 bd vs g.f * R)))))) ∧ Hid (Quiet w w0) :=
    ⟨_, rfl, Lib.hid ((h.boxB (ty := 86) (cs := [.int .i64 kd, .int .i64 x, .int .i64 kp, .int .i64 c, .int .i64 nw, .int .i64 j, .int .i64 r, .int .i64 k, .int .i64 m]) rfl).boxB (ty := 88) (cs := [.int .i64 0, .int .i64 0, .int .i64 0]) (g := w.heap.size + 1) (by simp)), Lib.hid (((Quiet.refl w).alloc _).alloc _)⟩
  clear h
  obtain ⟨g0, hg0⟩ : ∃ g0, w.heap.size = g0 := ⟨_, rfl⟩
  rw [hg0] at H0
  obtain ⟨ga, hga⟩ : ∃ ga, g0 + 1 = ga := ⟨_, rfl⟩
  rw [hga] at H0
  have co := H0.out.two.bl.cells
  obtain ⟨d, f, now⟩ := g
  dsimp only at H0
  have he : (⟨d, f, now⟩ : Gld).step ⟨kd, x, kp, ⟨c, nw, j, r, k, m⟩⟩ = (⟨d, f, now⟩, ⟨1, 0, 0⟩) := by
    unfold Gld.step; dsimp only; rw [if_neg h1, if_neg h5, if_neg (by omega)]
  rw [he]; clear he
  have b1 : (kd == 1) = false := by simpa using h1
  have b2 : (kd == 2) = false := by simpa using h2
  have b3 : (kd == 3) = false := by simpa using h3
  have b4 : (kd == 4) = false := by simpa using h4
  have b5 : (kd == 5) = false := by simpa using h5
  clear h1 h2 h3 h4 h5
  have ca := H0.out.bl.cells
  have fa := H0.out.bl.frees
  have la := H0.out.bl.lt
  go_enter Tryz.func44, Tryz.ntmps44
  go_wp2
  have hf := ((H0.out.setB 0 (.int .i64 1)).setB 1 (.int .i64 0)).setB 2 (.int .i64 0)
  have hl := run_load_part (P := Tryz.prog) (off := 0) (ty := 88) (vs := [.int .i64 1, .int .i64 0, .int .i64 0]) hf.bl rfl Tryz.underlying88 rfl (by kernel_rfl)
  exact bodyPost_ret (results_cell1 rfl rfl hl) rfl ⟨rfl, ((Q0.out.setCell _ _).setCell _ _).setCell _ _, gld_close hf.right.right⟩
set_option maxRecDepth 100000 in
set_option maxHeartbeats 4000000 in
theorem gStep_tick (bg bd : Nat) (vs : Nat → Value) (g : Gld) (x kp c nw j r k m : Int) (w : World) {R : HP} (h : Holds w (gblk bg bd vs g.now * (dsk bd g.d * (nodes3 bd vs g.f * R)))) (hn : 0 ≤ g.now ∧ g.now ≤ 60000) :
    Calls Tryz.prog 44 #[.pointer (some ⟨bg, 0, none⟩), .agg #[.int .i64 5, .int .i64 x, .int .i64 kp, .int .i64 c, .int .i64 nw, .int .i64 j, .int .i64 r, .int .i64 k, .int .i64 m]] w (GPost w bg R (g.step ⟨5, x, kp, ⟨c, nw, j, r, k, m⟩⟩)) := by
  obtain ⟨w0, hw0, H0, Q0⟩ : ∃ w0, (w.alloc (.cells #[.int .i64 5, .int .i64 x, .int .i64 kp, .int .i64 c, .int .i64 nw, .int .i64 j, .int .i64 r, .int .i64 k, .int .i64 m] 86)).alloc (.cells #[.int .i64 0, .int .i64 0, .int .i64 0] 88) = w0 ∧ Hid (Holds w0 (bl (w.heap.size + 1) 88 [.int .i64 0, .int .i64 0, .int .i64 0] * (bl w.heap.size 86 [.int .i64 5, .int .i64 x, .int .i64 kp, .int .i64 c, .int .i64 nw, .int .i64 j, .int .i64 r, .int .i64 k, .int .i64 m] * (gblk bg bd vs g.now * (dsk bd g.d * (nodes3 bd vs g.f * R)))))) ∧ Hid (Quiet w w0) :=
    ⟨_, rfl, Lib.hid ((h.boxB (ty := 86) (cs := [.int .i64 5, .int .i64 x, .int .i64 kp, .int .i64 c, .int .i64 nw, .int .i64 j, .int .i64 r, .int .i64 k, .int .i64 m]) rfl).boxB (ty := 88) (cs := [.int .i64 0, .int .i64 0, .int .i64 0]) (g := w.heap.size + 1) (by simp)), Lib.hid (((Quiet.refl w).alloc _).alloc _)⟩
  clear h
  obtain ⟨g0, hg0⟩ : ∃ g0, w.heap.size = g0 := ⟨_, rfl⟩
  rw [hg0] at H0
  obtain ⟨ga, hga⟩ : ∃ ga, g0 + 1 = ga := ⟨_, rfl⟩
  rw [hga] at H0
  have co := H0.out.two.bl.cells
  obtain ⟨d, f, now⟩ := g
  dsimp only at H0 hn
  have hn0 := hn.1
  have hn1 := hn.2
  clear hn
  have hsub : IntKind.i64.wrap (60000 - now) = 60000 - now := by rw [IntKind.wrap_i64]; omega
  by_cases hx : x < 0
  · have he : (⟨d, f, now⟩ : Gld).step ⟨5, x, kp, ⟨c, nw, j, r, k, m⟩⟩ = (⟨d, f, now⟩, ⟨3, 0, 0⟩) := by
      unfold Gld.step; dsimp only; rw [if_neg (by decide), if_pos rfl, if_pos (.inl hx)]
    rw [he]; clear he
    have hxb : decide (x < 0) = true := by simpa using hx
    go_enter Tryz.func44, Tryz.ntmps44
    go_wp2_with fail
    clear hw0 hg0 hga
    refine wp_region_lex (fun W => (∀ o, W.cell? ⟨g0, o, none⟩ = [.int .i64 5, .int .i64 x, .int .i64 kp, .int .i64 c, .int .i64 nw, .int .i64 j, .int .i64 r, .int .i64 k, .int .i64 m][o]?) ∧ W.cell? ⟨bg, 4, none⟩ = some (.int .i64 now)) [] (by kernel_rfl) (by kernel_rfl) ⟨H0.out.two.drew.bl.cells, (show BlockAt _ bg 65 (gcells bd vs now) from H0.out.three.drew.bl).cell 4 _ rfl⟩ ?_
    repeat (first | (refine LexL.none (by rfl) ?_; (try simp only [Act.put, List.setIfInBounds_toArray, List.set_cons_zero, List.set_cons_succ])) | (refine LexL.still (v := ?_) (by rfl) ?_ ?_; rotate_left; (focus (intro W hW; (try dsimp only at hW); go_simp; (try (with_reducible rfl)); done)); (try simp only [Act.put, List.setIfInBounds_toArray, List.set_cons_zero, List.set_cons_succ])))
    refine LexL.done ?_
    obtain ⟨w1, hw1, H1, Q1⟩ : ∃ w1, w0.drew = w1 ∧ Hid (Holds w1 (bl ga 88 [.int .i64 0, .int .i64 0, .int .i64 0] * (bl g0 86 [.int .i64 5, .int .i64 x, .int .i64 kp, .int .i64 c, .int .i64 nw, .int .i64 j, .int .i64 r, .int .i64 k, .int .i64 m] * (gblk bg bd vs now * (dsk bd d * (nodes3 bd vs f * R)))))) ∧ Hid (Quiet w w1) := ⟨_, rfl, Lib.hid H0.out.drew, Lib.hid Q0.out.drew⟩
    rw [hw1]
    clear hw1 co H0 Q0
    have ca := H1.out.bl.cells
    have fa := H1.out.bl.frees
    have la := H1.out.bl.lt
    go_wp2
    have hf := ((H1.out.setB 0 (.int .i64 3)).setB 1 (.int .i64 0)).setB 2 (.int .i64 0)
    have hl := run_load_part (P := Tryz.prog) (off := 0) (ty := 88) (vs := [.int .i64 3, .int .i64 0, .int .i64 0]) hf.bl rfl Tryz.underlying88 rfl (by kernel_rfl)
    exact bodyPost_ret (results_cell1 rfl rfl hl) rfl ⟨rfl, ((Q1.out.setCell _ _).setCell _ _).setCell _ _, gld_close hf.right.right⟩
  · by_cases hy : 60000 - now < x
    · have he : (⟨d, f, now⟩ : Gld).step ⟨5, x, kp, ⟨c, nw, j, r, k, m⟩⟩ = (⟨d, f, now⟩, ⟨3, 0, 0⟩) := by
        unfold Gld.step; dsimp only; rw [if_neg (by decide), if_pos rfl, if_pos (.inr hy)]
      rw [he]; clear he
      have hxb : decide (x < 0) = false := by simpa using hx
      have hyb : decide (60000 - now < x) = true := by simpa using hy
      go_enter Tryz.func44, Tryz.ntmps44
      go_wp2_with fail
      clear hw0 hg0 hga
      refine wp_region_lex (fun W => (∀ o, W.cell? ⟨g0, o, none⟩ = [.int .i64 5, .int .i64 x, .int .i64 kp, .int .i64 c, .int .i64 nw, .int .i64 j, .int .i64 r, .int .i64 k, .int .i64 m][o]?) ∧ W.cell? ⟨bg, 4, none⟩ = some (.int .i64 now)) [] (by kernel_rfl) (by kernel_rfl) ⟨H0.out.two.drew.bl.cells, (show BlockAt _ bg 65 (gcells bd vs now) from H0.out.three.drew.bl).cell 4 _ rfl⟩ ?_
      repeat (first | (refine LexL.none (by rfl) ?_; (try simp only [Act.put, List.setIfInBounds_toArray, List.set_cons_zero, List.set_cons_succ])) | (refine LexL.still (v := ?_) (by rfl) ?_ ?_; rotate_left; (focus (intro W hW; (try dsimp only at hW); go_simp; (try (with_reducible rfl)); done)); (try simp only [Act.put, List.setIfInBounds_toArray, List.set_cons_zero, List.set_cons_succ])))
      refine LexL.done ?_
      obtain ⟨w1, hw1, H1, Q1⟩ : ∃ w1, w0.drew = w1 ∧ Hid (Holds w1 (bl ga 88 [.int .i64 0, .int .i64 0, .int .i64 0] * (bl g0 86 [.int .i64 5, .int .i64 x, .int .i64 kp, .int .i64 c, .int .i64 nw, .int .i64 j, .int .i64 r, .int .i64 k, .int .i64 m] * (gblk bg bd vs now * (dsk bd d * (nodes3 bd vs f * R)))))) ∧ Hid (Quiet w w1) := ⟨_, rfl, Lib.hid H0.out.drew, Lib.hid Q0.out.drew⟩
      rw [hw1]
      clear hw1 co H0 Q0
      have ca := H1.out.bl.cells
      have fa := H1.out.bl.frees
      have la := H1.out.bl.lt
      go_wp2
      have hf := ((H1.out.setB 0 (.int .i64 3)).setB 1 (.int .i64 0)).setB 2 (.int .i64 0)
      have hl := run_load_part (P := Tryz.prog) (off := 0) (ty := 88) (vs := [.int .i64 3, .int .i64 0, .int .i64 0]) hf.bl rfl Tryz.underlying88 rfl (by kernel_rfl)
      exact bodyPost_ret (results_cell1 rfl rfl hl) rfl ⟨rfl, ((Q1.out.setCell _ _).setCell _ _).setCell _ _, gld_close hf.right.right⟩
    · have he : (⟨d, f, now⟩ : Gld).step ⟨5, x, kp, ⟨c, nw, j, r, k, m⟩⟩ = (⟨d, f, now + x⟩, ⟨0, 0, 0⟩) := by
        unfold Gld.step; dsimp only; rw [if_neg (by decide), if_pos rfl, if_neg (by omega)]
      rw [he]; clear he
      have hxb : decide (x < 0) = false := by simpa using hx
      have hyb : decide (60000 - now < x) = false := by simpa using hy
      go_enter Tryz.func44, Tryz.ntmps44
      go_wp2_with fail
      clear hw0 hg0 hga
      refine wp_region_lex (fun W => (∀ o, W.cell? ⟨g0, o, none⟩ = [.int .i64 5, .int .i64 x, .int .i64 kp, .int .i64 c, .int .i64 nw, .int .i64 j, .int .i64 r, .int .i64 k, .int .i64 m][o]?) ∧ W.cell? ⟨bg, 4, none⟩ = some (.int .i64 now)) [] (by kernel_rfl) (by kernel_rfl) ⟨H0.out.two.drew.bl.cells, (show BlockAt _ bg 65 (gcells bd vs now) from H0.out.three.drew.bl).cell 4 _ rfl⟩ ?_
      repeat (first | (refine LexL.none (by rfl) ?_; (try simp only [Act.put, List.setIfInBounds_toArray, List.set_cons_zero, List.set_cons_succ])) | (refine LexL.still (v := ?_) (by rfl) ?_ ?_; rotate_left; (focus (intro W hW; (try dsimp only at hW); go_simp; (try (with_reducible rfl)); done)); (try simp only [Act.put, List.setIfInBounds_toArray, List.set_cons_zero, List.set_cons_succ])))
      refine LexL.done ?_
      obtain ⟨w1, hw1, H1, Q1⟩ : ∃ w1, w0.drew = w1 ∧ Hid (Holds w1 (bl ga 88 [.int .i64 0, .int .i64 0, .int .i64 0] * (bl g0 86 [.int .i64 5, .int .i64 x, .int .i64 kp, .int .i64 c, .int .i64 nw, .int .i64 j, .int .i64 r, .int .i64 k, .int .i64 m] * (gblk bg bd vs now * (dsk bd d * (nodes3 bd vs f * R)))))) ∧ Hid (Quiet w w1) := ⟨_, rfl, Lib.hid H0.out.drew, Lib.hid Q0.out.drew⟩
      rw [hw1]
      clear hw1 co H0 Q0
      have ca := H1.out.bl.cells
      have fa := H1.out.bl.frees
      have la := H1.out.bl.lt
      go_wp2_with fail
      refine wp_region_still_tail 9 (by kernel_rfl) (by kernel_rfl) ?_
      simp only [List.take_succ_cons, List.take_zero, List.drop_succ_cons, List.drop_zero]
      change wpStill _ _ w1.drew (fun a' => wpList _ _ _ _ a' w1.drew) _ _
      obtain ⟨w2, hw2, H2, Q2⟩ : ∃ w2, w1.drew = w2 ∧ Hid (Holds w2 (bl ga 88 [.int .i64 0, .int .i64 0, .int .i64 0] * (bl g0 86 [.int .i64 5, .int .i64 x, .int .i64 kp, .int .i64 c, .int .i64 nw, .int .i64 j, .int .i64 r, .int .i64 k, .int .i64 m] * (gblk bg bd vs now * (dsk bd d * (nodes3 bd vs f * R)))))) ∧ Hid (Quiet w w2) := ⟨_, rfl, Lib.hid H1.out.drew, Lib.hid Q1.out.drew⟩
      rw [hw2]
      clear hw2 ca fa la H1 Q1
      have cs := H2.out.two.bl.cells
      have c4 := (show BlockAt _ bg 65 (gcells bd vs now) from H2.out.three.bl).cell 4 _ rfl
      have f4 := (show BlockAt _ bg 65 (gcells bd vs now) from H2.out.three.bl).frees
      have l4 := (show BlockAt _ bg 65 (gcells bd vs now) from H2.out.three.bl).lt
      have hsum : IntKind.i64.wrap (now + x) = now + x := by rw [IntKind.wrap_i64]; omega
      have ca := H2.out.bl.cells
      have fa := H2.out.bl.frees
      have la := H2.out.bl.lt
      have hne1 : bg ≠ ga := BlockAt.ne (show BlockAt w2 bg 65 (gcells bd vs now) from H2.out.three.bl) H2.out.bl (by decide)
      have hne2 := Ne.symm hne1
      repeat still_step
      refine wpStill_nil ?_
      go_wp2
      have h3 := H2.out.three.setB 4 (.int .i64 (now + x))
      have hf := ((h3.two.setB 0 (.int .i64 0)).setB 1 (.int .i64 0)).setB 2 (.int .i64 0)
      have hl := run_load_part (P := Tryz.prog) (off := 0) (ty := 88) (vs := [.int .i64 0, .int .i64 0, .int .i64 0]) hf.bl rfl Tryz.underlying88 rfl (by kernel_rfl)
      exact bodyPost_ret (results_cell1 rfl rfl hl) rfl ⟨rfl, (((Q2.out.setCell _ _).setCell _ _).setCell _ _).setCell _ _, gld_close (g := ⟨d, f, now + x⟩) hf.right.two.right⟩
end Go.Proofs.YtfihmpkkpgmdhaaGreatDoor
