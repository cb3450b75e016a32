/-
  What the proof of DeskJoins leans on: plain definitions and laws, and contracts of functions that it reaches. No condition besides those that each theorem names.
-/
import Derived.Test.YtfihmpkkpgmdhaaGreatDoorZJd
import Derived.Test.YtfihmpkkpgmdhaaGreatDoorZJb
import Derived.Test.YtfihmpkkpgmdhaaGreatDoorZJc
import Derived.Lib.SlBytesConst
/-
  The reference's record: its faults, and a record of bytes.
-/
namespace Go.Proofs.YtfihmpkkpgmdhaaGreatDoor
set_option maxRecDepth 100000
set_option linter.unusedSimpArgs false
set_option linter.unusedVariables false
open Go.RowKit

set_option maxHeartbeats 2000000 in
theorem ofault_any (c n j t k m : Int) (w : World) :
    Calls Tryz.prog 116 #[.agg #[.int .i64 c, .int .i64 n, .int .i64 j, .int .i64 t, .int .i64 k, .int .i64 m]] w fun e w' =>
      e = .returned (.int .i64 (chk ⟨c, n, j, t, k, m⟩)) ∧ Below w.heap.size w w' := by
  by_cases hc : 1 ≤ c ∧ c ≤ 5
  · obtain rfl | rfl | rfl | rfl | rfl : c = 1 ∨ c = 2 ∨ c = 3 ∨ c = 4 ∨ c = 5 := by omega
    all_goals
      clear hc
      go_enter Tryz.func116, Tryz.ntmps116
      go_wp2
    all_goals
      go_ret
      refine ⟨ret_i64 ?_, (Below.refl _ _).alloc (Nat.le_refl _) _⟩
      try simp only [Bool.not_eq_eq_eq_not, Bool.not_true, Bool.not_false, bne_iff_ne, ne_eq, bne_eq_false_iff_eq] at *
      unfold chk
      dsimp only
      repeat' split
      all_goals omega
  · have h1 : (c == 1) = false := by simp; omega
    have h2 : (c == 2) = false := by simp; omega
    have h3 : (c == 3) = false := by simp; omega
    have h4 : (c == 4) = false := by simp; omega
    have h5 : (c == 5) = false := by simp; omega
    have HC := Lib.hid hc; clear hc
    go_enter Tryz.func116, Tryz.ntmps116
    go_wp2
    go_ret
    exact ⟨ret_i64 (by rw [chk, if_pos HC.out]), (Below.refl _ _).alloc (Nat.le_refl _) _⟩
theorem rfault_any (p c n j t k m : Int) (w : World) :
    Calls Tryz.prog 119 #[.agg #[.int .i64 p, .int .i64 c, .int .i64 n, .int .i64 j, .int .i64 t, .int .i64 k, .int .i64 m]] w fun e w' => e = .returned (.int .i64 (chkR ⟨p, ⟨c, n, j, t, k, m⟩⟩)) ∧ Below w.heap.size w w' := by
  by_cases h1 : p < 1
  · rw [show chkR ⟨p, ⟨c, n, j, t, k, m⟩⟩ = 3 by simp [chkR, h1]]
    go_enter Tryz.func119, Tryz.ntmps119
    go_wp2_with fail
    go_ret
    exact ⟨rfl, (Below.refl _ _).alloc (Nat.le_refl _) _⟩
  · by_cases h2 : 100 < p
    · rw [show chkR ⟨p, ⟨c, n, j, t, k, m⟩⟩ = 3 by simp [chkR, h2]]
      go_enter Tryz.func119, Tryz.ntmps119
      go_wp2_with fail
      go_ret
      exact ⟨rfl, (Below.refl _ _).alloc (Nat.le_refl _) _⟩
    · rw [show chkR ⟨p, ⟨c, n, j, t, k, m⟩⟩ = chk ⟨c, n, j, t, k, m⟩ by simp [chkR]; omega]
      go_enter Tryz.func119, Tryz.ntmps119
      go_wp2_with fail
      refine (ofault_any c n j t k m _).mono ?_
      rintro e w1 ⟨rfl, hb⟩
      go_wp2
      go_ret
      exact ⟨rfl, ((Below.refl w.heap.size w).alloc (Nat.le_refl _) _).trans (hb.mono (by simp))⟩
theorem wm8 (y : Nat) (h : y < 256) : IntKind.i64.wrap (256 * (y : Int)) = 256 * (y : Int) := by
  rw [IntKind.wrap_i64]; omega
theorem wa8 (y z : Nat) (h : y < 256) (hz : z < 256) : IntKind.i64.wrap (256 * (y : Int) + (z : Int)) = 256 * (y : Int) + (z : Int) := by
  rw [IntKind.wrap_i64]; omega
set_option maxRecDepth 100000 in
set_option maxHeartbeats 4000000 in
theorem recof_any (v : Value) (l : List UInt8) (w : World) (h : BytesAt w v l) : Calls Tryz.prog 96 #[v] w (DecPost w (decB l)) := by
  have HB := Lib.hid h
  obtain ⟨a, c, rfl, h1, h2, h3⟩ := h.get
  have H3 := Lib.hid h3; clear h3 h
  by_cases h9 : l.length < 9
  · rw [show decB l = (Rec.zero, 7) by simp [decB, h9]]
    go_enter Tryz.func96, Tryz.ntmps96
    go_wp2
    refine bodyPost_ret (v := .tuple #[.agg #[.int .i64 0, .int .i64 0, .int .i64 0, .int .i64 0, .int .i64 0, .int .i64 0, .int .i64 0], .int .i64 7]) (by simp [results, Tryz.results96, go_sem]) rfl ⟨rfl, ?_⟩
    repeat refine Below.setCell ?_ (Nat.le_refl _) _
    exact (Below.refl _ _).alloc (Nat.le_refl _) _
  · obtain ⟨g, off, rfl, hc⟩ := H3.out (by intro e; subst e; simp at h9)
    have c8 := hc 8 (by omega)
    have h10 : 9 ≤ l.length := by omega
    have h11 : 8 ≤ c := by omega
    have h12 : (8 : Int) ≤ (c : Int) := by omega
    have h20 : 0 < l.length := by omega
    have h21 : (1 : Int) < (l.length : Int) := by omega
    have h22 : (2 : Int) < (l.length : Int) := by omega
    have h23 : (3 : Int) < (l.length : Int) := by omega
    have h24 : (4 : Int) < (l.length : Int) := by omega
    have h25 : (5 : Int) < (l.length : Int) := by omega
    have h26 : (6 : Int) < (l.length : Int) := by omega
    have h27 : (7 : Int) < (l.length : Int) := by omega
    have h28 : (8 : Int) < (l.length : Int) := by omega
    have HT := Lib.hid (HB.out.take (q := 8) (by omega))
    have hg := block_lt_of_cell c8
    by_cases hs : csum (l.take 8) = l.getD 8 0
    · have hs1 : (((csum (l.take 8)).toNat : Int) != ((l.getD 8 0).toNat : Int)) = false := by rw [hs]; simp
      have d0 := hc 0 (by omega)
      have d1 := hc 1 (by omega)
      have d2 := hc 2 (by omega)
      have d3 := hc 3 (by omega)
      have d4 := hc 4 (by omega)
      have d5 := hc 5 (by omega)
      have d6 := hc 6 (by omega)
      have d7 := hc 7 (by omega)
      rw [Nat.add_zero] at d0
      clear hc
      have dx : decB l = (if chkR ⟨((l.getD 0 0).toNat : Int), ⟨((l.getD 1 0).toNat : Int), 256 * ((l.getD 2 0).toNat : Int) + ((l.getD 3 0).toNat : Int), ((l.getD 4 0).toNat : Int), ((l.getD 5 0).toNat : Int), ((l.getD 6 0).toNat : Int), ((l.getD 7 0).toNat : Int)⟩⟩ ≠ 0 then (Rec.zero, chkR ⟨((l.getD 0 0).toNat : Int), ⟨((l.getD 1 0).toNat : Int), 256 * ((l.getD 2 0).toNat : Int) + ((l.getD 3 0).toNat : Int), ((l.getD 4 0).toNat : Int), ((l.getD 5 0).toNat : Int), ((l.getD 6 0).toNat : Int), ((l.getD 7 0).toNat : Int)⟩⟩) else (⟨((l.getD 0 0).toNat : Int), ⟨((l.getD 1 0).toNat : Int), 256 * ((l.getD 2 0).toNat : Int) + ((l.getD 3 0).toNat : Int), ((l.getD 4 0).toNat : Int), ((l.getD 5 0).toNat : Int), ((l.getD 6 0).toNat : Int), ((l.getD 7 0).toNat : Int)⟩⟩, 0)) := by
        rw [decB, if_neg h9, if_neg (by rw [hs]; simp)]
        rfl
      rw [dx]; clear dx hs
      have e0 := w8 _ (l.getD 0 0).toNat_lt
      have e1 := w8 _ (l.getD 1 0).toNat_lt
      have e2 := w8 _ (l.getD 2 0).toNat_lt
      have e3 := w8 _ (l.getD 3 0).toNat_lt
      have b2 : (l.getD 2 0).toNat < 256 := (l.getD 2 0).toNat_lt
      have b3 : (l.getD 3 0).toNat < 256 := (l.getD 3 0).toNat_lt
      have e23 := wm8 _ b2
      have e24 := wa8 _ _ b2 b3
      have e4 := w8 _ (l.getD 4 0).toNat_lt
      have e5 := w8 _ (l.getD 5 0).toNat_lt
      have e6 := w8 _ (l.getD 6 0).toNat_lt
      have e7 := w8 _ (l.getD 7 0).toNat_lt
      generalize (l.getD 0 0).toNat = y0 at *
      generalize (l.getD 1 0).toNat = y1 at *
      generalize (l.getD 2 0).toNat = y2 at *
      generalize (l.getD 3 0).toNat = y3 at *
      generalize (l.getD 4 0).toNat = y4 at *
      generalize (l.getD 5 0).toNat = y5 at *
      generalize (l.getD 6 0).toNat = y6 at *
      generalize (l.getD 7 0).toNat = y7 at *
      generalize (l.getD 8 0).toNat = y8 at *
      generalize hcs : (csum (l.take 8)).toNat = cs at *
      have HCS := Lib.hid hcs; clear hcs
      by_cases hk : chkR ⟨(y0 : Int), ⟨(y1 : Int), 256 * (y2 : Int) + (y3 : Int), (y4 : Int), (y5 : Int), (y6 : Int), (y7 : Int)⟩⟩ = 0
      · rw [if_neg (by rw [hk]; simp)]
        have HK := Lib.hid hk; clear hk
        go_enter Tryz.func96, Tryz.ntmps96
        go_wp2
        refine wp_region_lex (fun W => W.cell? ⟨g, off + 8, none⟩ = some (.int .u8 (y8 : Int))) [2] (by kernel_rfl) (by kernel_rfl) (by go_simp) ?_
        repeat (first | (refine LexL.none (by rfl) ?_; (try simp only [Act.put, List.setIfInBounds_toArray, List.set_cons_zero, List.set_cons_succ])) | (refine LexL.still (v := ?_) (by rfl) ?_ ?_; rotate_left; (focus (intro W hW; (try dsimp only at hW); go_simp; (try (with_reducible rfl)); done)); (try simp only [Act.put, List.setIfInBounds_toArray, List.set_cons_zero, List.set_cons_succ])))
        refine LexL.call (f := 118) (args := #[.slice (some ⟨g, off, none⟩) 8 c]) (w1 := (w.alloc (.cells #[.int .i64 0, .int .i64 0, .int .i64 0, .int .i64 0, .int .i64 0, .int .i64 0, .int .i64 0] 103)).drew) (by rfl) (by decide) (by go_simp) ?_
        refine (rsum_any _ (l.take 8) _ (HT.out.upd (Upd.drew (Upd.alloc (F := fun _ => False) (Upd.refl _ _) _)) (fun _ _ h => h)) (by simp; omega)).mono ?_
        rw [HCS.out]
        rintro e w1 ⟨rfl, rfl⟩
        refine ⟨_, rfl, by go_simp, ?_⟩
        try simp only [Act.put, List.setIfInBounds_toArray, List.set_cons_zero, List.set_cons_succ]
        repeat (first | (refine LexL.none (by rfl) ?_; (try simp only [Act.put, List.setIfInBounds_toArray, List.set_cons_zero, List.set_cons_succ])) | (refine LexL.still (v := ?_) (by rfl) ?_ ?_; rotate_left; (focus (intro W hW; (try dsimp only at hW); go_simp; (try (with_reducible rfl)); done)); (try simp only [Act.put, List.setIfInBounds_toArray, List.set_cons_zero, List.set_cons_succ])))
        refine LexL.done ?_
        go_wp2
        refine wp_region_lex (fun W => W.cell? ⟨g, off + 1, none⟩ = some (.int .u8 (y1 : Int)) ∧ W.cell? ⟨g, off + 2, none⟩ = some (.int .u8 (y2 : Int)) ∧ W.cell? ⟨g, off + 3, none⟩ = some (.int .u8 (y3 : Int)) ∧ W.cell? ⟨g, off + 4, none⟩ = some (.int .u8 (y4 : Int)) ∧ W.cell? ⟨g, off + 5, none⟩ = some (.int .u8 (y5 : Int)) ∧ W.cell? ⟨g, off + 6, none⟩ = some (.int .u8 (y6 : Int)) ∧ W.cell? ⟨g, off + 7, none⟩ = some (.int .u8 (y7 : Int))) [32] (by kernel_rfl) (by kernel_rfl) (by refine ⟨?_, ?_, ?_, ?_, ?_, ?_, ?_⟩ <;> go_simp) ?_
        repeat (first | (refine LexL.none (by rfl) ?_; (try simp only [Act.put, List.setIfInBounds_toArray, List.set_cons_zero, List.set_cons_succ])) | (refine LexL.still (v := ?_) (by rfl) ?_ ?_; rotate_left; (focus (intro W hW; (try dsimp only at hW); go_simp; (try (with_reducible rfl)); done)); (try simp only [Act.put, List.setIfInBounds_toArray, List.set_cons_zero, List.set_cons_succ])))
        refine LexL.store (by rfl) (by decide) (by go_simp; rfl) (by refine ⟨?_, ?_, ?_, ?_, ?_, ?_, ?_⟩ <;> go_simp) ?_
        try simp only [Act.put, List.setIfInBounds_toArray, List.set_cons_zero, List.set_cons_succ]
        refine LexL.done ?_
        go_wp2_with fail
        refine (rfault_any _ _ _ _ _ _ _ _).mono ?_
        rw [HK.out]
        rintro e w2 ⟨rfl, hb⟩
        have hb0 := (((Below.refl w.heap.size w).alloc (Nat.le_refl _) (.cells #[.int .i64 0, .int .i64 0, .int .i64 0, .int .i64 0, .int .i64 0, .int .i64 0, .int .i64 0] 103)).alloc (by simp) (.cells #[.int .i64 y0, .int .i64 y1, .int .i64 (256 * y2 + y3), .int .i64 y4, .int .i64 y5, .int .i64 y6, .int .i64 y7] 103)).drew.drew
        have hx := ((BlockAt.new w 103 [.int .i64 0, .int .i64 0, .int .i64 0, .int .i64 0, .int .i64 0, .int .i64 0, .int .i64 0]).alloc (.cells #[.int .i64 y0, .int .i64 y1, .int .i64 (256 * y2 + y3), .int .i64 y4, .int .i64 y5, .int .i64 y6, .int .i64 y7] 103)).drew.drew.below hb (by simp; omega)
        have hy := (BlockAt.new (w.alloc (.cells #[.int .i64 0, .int .i64 0, .int .i64 0, .int .i64 0, .int .i64 0, .int .i64 0, .int .i64 0] 103)) 103 [.int .i64 y0, .int .i64 y1, .int .i64 (256 * y2 + y3), .int .i64 y4, .int .i64 y5, .int .i64 y6, .int .i64 y7]).drew.drew.below hb (by simp)
        rw [World.size_alloc] at hy
        have hb2 := hb0.trans (hb.mono (by simp; omega))
        have k1 := hx.cells
        have f1 := hx.frees
        have l1 := hx.lt
        have k2 := hy.cells
        have f2 := hy.frees
        have l2 := hy.lt
        have HB2 := Lib.hid hb2
        clear hb hb0 hb2 hx hy
        go_wp2
        refine bodyPost_ret (v := .tuple #[.agg #[.int .i64 y0, .int .i64 y1, .int .i64 (256 * y2 + y3), .int .i64 y4, .int .i64 y5, .int .i64 y6, .int .i64 y7], .int .i64 0]) (by simp [results, Tryz.results96, go_sem, k1, k2, l1, l2, f1, f2]) rfl ⟨rfl, ?_⟩
        iterate 7 refine Below.setCell ?_ (by exact Nat.le_refl _) _
        exact HB2.out
      · rw [if_pos hk]
        obtain ⟨C, hC⟩ : ∃ C, chkR ⟨(y0 : Int), ⟨(y1 : Int), 256 * (y2 : Int) + (y3 : Int), (y4 : Int), (y5 : Int), (y6 : Int), (y7 : Int)⟩⟩ = C := ⟨_, rfl⟩
        rw [hC] at hk
        have hk1 : (C != 0) = true := by simpa using hk
        rw [hC]
        have HK := Lib.hid hC; clear hC hk
        go_enter Tryz.func96, Tryz.ntmps96
        go_wp2
        refine wp_region_lex (fun W => W.cell? ⟨g, off + 8, none⟩ = some (.int .u8 (y8 : Int))) [2] (by kernel_rfl) (by kernel_rfl) (by go_simp) ?_
        repeat (first | (refine LexL.none (by rfl) ?_; (try simp only [Act.put, List.setIfInBounds_toArray, List.set_cons_zero, List.set_cons_succ])) | (refine LexL.still (v := ?_) (by rfl) ?_ ?_; rotate_left; (focus (intro W hW; (try dsimp only at hW); go_simp; (try (with_reducible rfl)); done)); (try simp only [Act.put, List.setIfInBounds_toArray, List.set_cons_zero, List.set_cons_succ])))
        refine LexL.call (f := 118) (args := #[.slice (some ⟨g, off, none⟩) 8 c]) (w1 := (w.alloc (.cells #[.int .i64 0, .int .i64 0, .int .i64 0, .int .i64 0, .int .i64 0, .int .i64 0, .int .i64 0] 103)).drew) (by rfl) (by decide) (by go_simp) ?_
        refine (rsum_any _ (l.take 8) _ (HT.out.upd (Upd.drew (Upd.alloc (F := fun _ => False) (Upd.refl _ _) _)) (fun _ _ h => h)) (by simp; omega)).mono ?_
        rw [HCS.out]
        rintro e w1 ⟨rfl, rfl⟩
        refine ⟨_, rfl, by go_simp, ?_⟩
        try simp only [Act.put, List.setIfInBounds_toArray, List.set_cons_zero, List.set_cons_succ]
        repeat (first | (refine LexL.none (by rfl) ?_; (try simp only [Act.put, List.setIfInBounds_toArray, List.set_cons_zero, List.set_cons_succ])) | (refine LexL.still (v := ?_) (by rfl) ?_ ?_; rotate_left; (focus (intro W hW; (try dsimp only at hW); go_simp; (try (with_reducible rfl)); done)); (try simp only [Act.put, List.setIfInBounds_toArray, List.set_cons_zero, List.set_cons_succ])))
        refine LexL.done ?_
        go_wp2
        refine wp_region_lex (fun W => W.cell? ⟨g, off + 1, none⟩ = some (.int .u8 (y1 : Int)) ∧ W.cell? ⟨g, off + 2, none⟩ = some (.int .u8 (y2 : Int)) ∧ W.cell? ⟨g, off + 3, none⟩ = some (.int .u8 (y3 : Int)) ∧ W.cell? ⟨g, off + 4, none⟩ = some (.int .u8 (y4 : Int)) ∧ W.cell? ⟨g, off + 5, none⟩ = some (.int .u8 (y5 : Int)) ∧ W.cell? ⟨g, off + 6, none⟩ = some (.int .u8 (y6 : Int)) ∧ W.cell? ⟨g, off + 7, none⟩ = some (.int .u8 (y7 : Int))) [32] (by kernel_rfl) (by kernel_rfl) (by refine ⟨?_, ?_, ?_, ?_, ?_, ?_, ?_⟩ <;> go_simp) ?_
        repeat (first | (refine LexL.none (by rfl) ?_; (try simp only [Act.put, List.setIfInBounds_toArray, List.set_cons_zero, List.set_cons_succ])) | (refine LexL.still (v := ?_) (by rfl) ?_ ?_; rotate_left; (focus (intro W hW; (try dsimp only at hW); go_simp; (try (with_reducible rfl)); done)); (try simp only [Act.put, List.setIfInBounds_toArray, List.set_cons_zero, List.set_cons_succ])))
        refine LexL.store (by rfl) (by decide) (by go_simp; rfl) (by refine ⟨?_, ?_, ?_, ?_, ?_, ?_, ?_⟩ <;> go_simp) ?_
        try simp only [Act.put, List.setIfInBounds_toArray, List.set_cons_zero, List.set_cons_succ]
        refine LexL.done ?_
        go_wp2_with fail
        refine (rfault_any _ _ _ _ _ _ _ _).mono ?_
        rw [HK.out]
        rintro e w2 ⟨rfl, hb⟩
        have hb0 := (((Below.refl w.heap.size w).alloc (Nat.le_refl _) (.cells #[.int .i64 0, .int .i64 0, .int .i64 0, .int .i64 0, .int .i64 0, .int .i64 0, .int .i64 0] 103)).alloc (by simp) (.cells #[.int .i64 y0, .int .i64 y1, .int .i64 (256 * y2 + y3), .int .i64 y4, .int .i64 y5, .int .i64 y6, .int .i64 y7] 103)).drew.drew
        have hx := ((BlockAt.new w 103 [.int .i64 0, .int .i64 0, .int .i64 0, .int .i64 0, .int .i64 0, .int .i64 0, .int .i64 0]).alloc (.cells #[.int .i64 y0, .int .i64 y1, .int .i64 (256 * y2 + y3), .int .i64 y4, .int .i64 y5, .int .i64 y6, .int .i64 y7] 103)).drew.drew.below hb (by simp; omega)
        have hy := (BlockAt.new (w.alloc (.cells #[.int .i64 0, .int .i64 0, .int .i64 0, .int .i64 0, .int .i64 0, .int .i64 0, .int .i64 0] 103)) 103 [.int .i64 y0, .int .i64 y1, .int .i64 (256 * y2 + y3), .int .i64 y4, .int .i64 y5, .int .i64 y6, .int .i64 y7]).drew.drew.below hb (by simp)
        rw [World.size_alloc] at hy
        have hb2 := hb0.trans (hb.mono (by simp; omega))
        have k1 := hx.cells
        have f1 := hx.frees
        have l1 := hx.lt
        have k2 := hy.cells
        have f2 := hy.frees
        have l2 := hy.lt
        have HB2 := Lib.hid hb2
        clear hb hb0 hb2 hx hy
        go_wp2
        refine bodyPost_ret (v := .tuple #[.agg #[.int .i64 0, .int .i64 0, .int .i64 0, .int .i64 0, .int .i64 0, .int .i64 0, .int .i64 0], .int .i64 C]) (by simp [results, Tryz.results96, go_sem, k1, k2, l1, l2, f1, f2]) rfl ⟨rfl, ?_⟩
        iterate 7 refine Below.setCell ?_ (by exact Nat.le_refl _) _
        exact HB2.out
    · have hs2 : (((csum (l.take 8)).toNat : Int) != ((l.getD 8 0).toNat : Int)) = true := u8_ne _ _ hs
      rw [show decB l = (Rec.zero, 2) by rw [decB, if_neg h9, if_pos hs]]
      generalize (l.getD 8 0).toNat = y8 at *
      generalize hcs : (csum (l.take 8)).toNat = cs at *
      have HCS := Lib.hid hcs; clear hcs hc
      go_enter Tryz.func96, Tryz.ntmps96
      go_wp2
      refine wp_region_lex (fun W => W.cell? ⟨g, off + 8, none⟩ = some (.int .u8 (y8 : Int))) [2] (by kernel_rfl) (by kernel_rfl) (by go_simp) ?_
      repeat (first | (refine LexL.none (by rfl) ?_; (try simp only [Act.put, List.setIfInBounds_toArray, List.set_cons_zero, List.set_cons_succ])) | (refine LexL.still (v := ?_) (by rfl) ?_ ?_; rotate_left; (focus (intro W hW; (try dsimp only at hW); go_simp; (try (with_reducible rfl)); done)); (try simp only [Act.put, List.setIfInBounds_toArray, List.set_cons_zero, List.set_cons_succ])))
      refine LexL.call (f := 118) (args := #[.slice (some ⟨g, off, none⟩) 8 c]) (w1 := (w.alloc (.cells #[.int .i64 0, .int .i64 0, .int .i64 0, .int .i64 0, .int .i64 0, .int .i64 0, .int .i64 0] 103)).drew) (by rfl) (by decide) (by go_simp) ?_
      refine (rsum_any _ (l.take 8) _ (HT.out.upd (Upd.drew (Upd.alloc (F := fun _ => False) (Upd.refl _ _) _)) (fun _ _ h => h)) (by simp; omega)).mono ?_
      rw [HCS.out]
      rintro e w1 ⟨rfl, rfl⟩
      refine ⟨_, rfl, by go_simp, ?_⟩
      try simp only [Act.put, List.setIfInBounds_toArray, List.set_cons_zero, List.set_cons_succ]
      repeat (first | (refine LexL.none (by rfl) ?_; (try simp only [Act.put, List.setIfInBounds_toArray, List.set_cons_zero, List.set_cons_succ])) | (refine LexL.still (v := ?_) (by rfl) ?_ ?_; rotate_left; (focus (intro W hW; (try dsimp only at hW); go_simp; (try (with_reducible rfl)); done)); (try simp only [Act.put, List.setIfInBounds_toArray, List.set_cons_zero, List.set_cons_succ])))
      refine LexL.done ?_
      go_wp2
      refine bodyPost_ret (v := .tuple #[.agg #[.int .i64 0, .int .i64 0, .int .i64 0, .int .i64 0, .int .i64 0, .int .i64 0, .int .i64 0], .int .i64 2]) (by simp [results, Tryz.results96, go_sem]) rfl ⟨rfl, ?_⟩
      exact ((Below.refl _ _).alloc (Nat.le_refl _) _).drew
end Go.Proofs.YtfihmpkkpgmdhaaGreatDoor


/-
  Records, one behind the other: All.
-/
namespace Go.Proofs.YtfihmpkkpgmdhaaGreatDoor
set_option maxRecDepth 100000
set_option linter.unusedSimpArgs false
set_option linter.unusedVariables false
open Go.RowKit
def recs (v : Value) (l : List Rec) : HP := rw_ 103 7 v l.length (rvs l)
theorem recs_nil : recs (.slice none 0 0) [] = rw_ 103 7 (.slice none 0 0) 0 [] := rfl
theorem Ones.rvs (l : List Rec) : Ones (rvs l) := rvs_ones l
theorem rcells_ones (r : Rec) : Ones (rcells r) := fun u hu => rvs_ones [r] u (by simpa [Go.Proofs.YtfihmpkkpgmdhaaGreatDoor.rvs] using hu)
/-- A slice's end, as Go spells it: at the capacity the address stays. -/
theorem BytesAt.dropIf {w : World} {g off n c : Nat} {l : List UInt8} (h : BytesAt w (.slice (some ⟨g, off, none⟩) n c) l) {q : Nat} (hq : q ≤ l.length) : BytesAt w (.slice (if c = q then some ⟨g, off, none⟩ else some ⟨g, off + q, none⟩) (n - q) (c - q)) (l.drop q) := by
  have hd := h.drop hq
  split
  · rename_i e
    subst e
    obtain ⟨a', c', e, h1, h2, h3, h4⟩ := h
    simp only [Value.slice.injEq] at e
    obtain ⟨rfl, rfl, rfl⟩ := e
    have e0 : l.drop c = [] := List.drop_eq_nil_of_le h1
    rw [e0]
    exact ⟨some ⟨g, off, none⟩, 0, by simp; omega, by simp, by simp [maxLen], (fun e => by cases e), fun h => absurd rfl h⟩
  · exact hd
set_option maxRecDepth 100000 in
set_option maxHeartbeats 2000000 in
theorem all_any (v : Value) (l : List UInt8) (w : World) (h : BytesAt w v l) (hl : l.length ≤ 100000) : Calls Tryz.prog 78 #[v] w (PostX w (old w) (fun v => v) fun v => recs v (allB l)) := by
  go_enter Tryz.func78, Tryz.ntmps78
  go_wp2
  go_loopw [0, 3, 4] (fun s v la wr => ∃ (q : List UInt8) (acc : List Rec) (last : Int), la = .int .i64 last ∧ q.length ≤ l.length ∧ acc.length + q.length ≤ l.length ∧ BytesAt w s q ∧ Holds wr (recs v acc * old w) ∧ Quiet w wr ∧ allB l = acc ++ allFrom (q.length + 1) last q) (fun s _ _ _ => match s with | .slice _ n _ => n | _ => 0)
  case atStart => exact ⟨l, [], 0, rfl, Nat.le_refl _, by simp, h, Holds.nilRow Holds.old _ _, Quiet.refl _, by simp [allB]⟩
  case round =>
    obtain ⟨q, acc, last, rfl, hq, hac, hs, ho, hqu, hall⟩ := hrel
    have hsw := hs.old ho
    have HO := Lib.hid ho; have HQU := Lib.hid hqu; have HALL := Lib.hid hall; have HS := Lib.hid hs; have HSW := Lib.hid hsw
    clear ho hqu hall hs hsw
    generalize hD : decB q = D at *
    obtain ⟨⟨ep, ⟨c, n, j, t, k, m⟩⟩, code⟩ := D
    have HD := Lib.hid hD; clear hD
    by_cases h1 : code = 0
    · subst h1
      have h9 := decB_len (l := q) (by rw [HD.out])
      obtain ⟨a, cc, rfl, c1, c2, c3⟩ := HS.out.get
      obtain ⟨g, off, rfl, -⟩ := c3 (by intro e; subst e; simp at h9)
      clear c3
      have c9 : 9 ≤ cc := by omega
      have hdr := HS.out.dropIf h9
      have HDR := Lib.hid hdr; clear hdr
      by_cases h2 : ep < last
      · have HA := Lib.hid (show allFrom (q.length + 1) last q = [] by rw [allFrom, if_pos (by rw [HD.out]; exact .inr h2)])
        go_wp2_with fail
        refine (decode_any _ q _ HSW.out).mono ?_
        rw [HD.out]
        rintro e w2 ⟨rfl, hb2⟩
        have HO3 := Lib.hid (HO.out.below hb2); have HQ3 := Lib.hid (HQU.out.trans (Quiet.below hb2)); clear hb2
        go_wp2_with fail
        go_ret
        exact ⟨_, rfl, HQ3.out.alloc _, by rw [HALL.out, HA.out, List.append_nil]; exact HO3.out.alloc _⟩
      · have HA := Lib.hid (show allFrom (q.length + 1) last q = ⟨ep, ⟨c, n, j, t, k, m⟩⟩ :: allFrom ((q.drop 9).length + 1) ep (q.drop 9) by
          rw [allFrom, if_neg (by rw [HD.out]; simpa using h2), HD.out]
          rw [allFrom_fuel q.length ((q.drop 9).length + 1) _ _ (by simp; omega) (by simp; omega)])
        go_wp2_with fail
        refine (decode_any _ q _ HSW.out).mono ?_
        rw [HD.out]
        rintro e w2 ⟨rfl, hb2⟩
        have HQ3 := Lib.hid (HQU.out.trans (Quiet.below hb2))
        have ho3 := (((HO.out.below hb2).allocB 103 (rcells ⟨ep, ⟨c, n, j, t, k, m⟩⟩)).alloc (.cells (rcells ⟨ep, ⟨c, n, j, t, k, m⟩⟩).toArray 103)).two
        have hn3 := (OwnRow.new (w2.alloc (.cells (rcells ⟨ep, ⟨c, n, j, t, k, m⟩⟩).toArray 103)) 103 7 1 (rcells ⟨ep, ⟨c, n, j, t, k, m⟩⟩) rfl (rcells_ones _) (by omega)).row
        rw [World.size_alloc] at hn3
        obtain ⟨i0, hi, hz0, hz1, hz2⟩ := info_parts Tryz.infoRec
        have HO3 := Lib.hid ho3; have HN3 := Lib.hid hn3; clear ho3 hn3 hb2
        go_wp2_with (at_builtin; refine wpList_append_sl rfl _ _ 136 rfl 103 i0 _ 7 56 Tryz.underlying136 hi hz0 hz1 hz2 rfl (by decide) rfl rfl HO3.out HN3.out rfl (rcells_ones _) (by omega) (by omega) ?_; intro v' w' hv' hq'; have hk := hv'.two.bl.cells; simp only [rcells] at hk; have HV := Lib.hid hv'; have HQ := Lib.hid hq'; clear hv' hq')
        go_roundw
        case rel => exact ⟨q.drop 9, acc ++ [⟨ep, ⟨c, n, j, t, k, m⟩⟩], ep, rfl, by simp; omega, by simp; omega, HDR.out, by simpa [recs, rvs_append, rvs] using HV.out.two.right, (HQ3.out.alloc _).alloc _ |>.trans HQ.out, by rw [HALL.out, HA.out]; simp⟩
        case measure => simp; omega
    · have h1' : (code != 0) = true := by simpa using h1
      have HA := Lib.hid (show allFrom (q.length + 1) last q = [] by rw [allFrom, if_pos (by rw [HD.out]; exact .inl h1)])
      go_wp2_with fail
      refine (decode_any _ q _ HSW.out).mono ?_
      rw [HD.out]
      rintro e w2 ⟨rfl, hb2⟩
      have HO3 := Lib.hid (HO.out.below hb2); have HQ3 := Lib.hid (HQU.out.trans (Quiet.below hb2)); clear hb2
      go_wp2_with fail
      go_ret
      exact ⟨_, rfl, HQ3.out.alloc _, by rw [HALL.out, HA.out, List.append_nil]; exact HO3.out.alloc _⟩
end Go.Proofs.YtfihmpkkpgmdhaaGreatDoor

/-
  Records, one behind the other: SameRecords, of the same ones.
-/
namespace Go.Proofs.YtfihmpkkpgmdhaaGreatDoor
set_option maxRecDepth 100000
set_option linter.unusedSimpArgs false
set_option linter.unusedVariables false
open Go.RowKit
theorem rvs_cell {w : World} {g off : Nat} {l : List Rec} (h : ∀ j u, (rvs l)[j]? = some u → w.cell? ⟨g, off + j, none⟩ = some u) {i : Nat} {r : Rec} (hi : l[i]? = some r) (j : Nat) (u : Value) (hj : j < 7) (hu : (rcells r)[j]? = some u) : w.cell? ⟨g, off + i * 7 + j, none⟩ = some u := by
  rw [Nat.add_assoc]
  refine h _ _ ?_
  rw [rvs_get l i j hj, hi]
  exact hu
end Go.Proofs.YtfihmpkkpgmdhaaGreatDoor

/-
  Records, one behind the other: RecordsOf.
-/
namespace Go.Proofs.YtfihmpkkpgmdhaaGreatDoor
set_option maxRecDepth 100000
set_option linter.unusedSimpArgs false
set_option linter.unusedVariables false
open Go.RowKit
theorem allFrom_end {n : Nat} {last : Int} {q : List UInt8} {x : Rec × Int} (hD : decB q = x) (h : x.2 ≠ 0 ∨ x.1.ep < last) : allFrom n last q = [] := by
  cases n with
  | zero => rfl
  | succ n => rw [allFrom, if_pos (by rw [hD]; exact h)]
theorem allFrom_go {last : Int} {l : List UInt8} {p : Nat} {x : Rec} (hD : decB (l.drop p) = (x, 0)) (h : ¬ x.ep < last) : p + 9 ≤ l.length ∧ allFrom (l.length - p + 1) last (l.drop p) = x :: allFrom (l.length - (p + 9) + 1) x.ep (l.drop (p + 9)) := by
  have h9 := decB_len (l := l.drop p) (by rw [hD])
  rw [List.length_drop] at h9
  refine ⟨by omega, ?_⟩
  rw [allFrom, if_neg (by rw [hD]; simpa using h), hD, List.drop_drop]
  rw [allFrom_fuel (l.length - p) (l.length - (p + 9) + 1) _ _ (by simp; omega) (by simp; omega)]
set_option maxRecDepth 100000 in
set_option maxHeartbeats 8000000 in
theorem recsof_any (v : Value) (l : List UInt8) (w : World) (h : BytesAt w v l) (hl : l.length ≤ 100000) : Calls Tryz.prog 64 #[v] w (PostX w (old w) (fun v => v) fun v => recs v (allB l)) := by
  have HS := Lib.hid h
  obtain ⟨a, cc, rfl, c1, c2, c3⟩ := h.get
  by_cases hl0 : l = []
  · subst hl0
    have h0 : allB [] = [] := rfl
    have H0 := Lib.hid h0
    have hcc : a = none → cc = 0 := by
      obtain ⟨a', c', e, _, _, h3, _⟩ := h
      simp only [Value.slice.injEq] at e
      obtain ⟨rfl, _, rfl⟩ := e
      exact h3
    have hbe : ∀ (a' : Option Addr) (w : World), (a' = none → cc = 0) → BytesAt w (.slice a' 0 cc) [] := fun a' w h => ⟨a', cc, rfl, by simp, by unfold maxLen; omega, h, fun h => absurd rfl h⟩
    have HBE := Lib.hid hbe
    have HCC := Lib.hid hcc
    clear c3 h hbe hcc h0 c1
    rw [List.length_nil]
    by_cases hz : cc = 0
    · subst hz
      go_enter Tryz.func64, Tryz.ntmps64
      go_wp2
      go_loopw [3, 4] (fun v i wr => v = .slice none 0 0 ∧ i = .int .i64 0 ∧ wr = w) (fun _ i _ => 0)
      case atStart => exact ⟨rfl, rfl, rfl⟩
      case round =>
        obtain ⟨rfl, rfl, rfl⟩ := hrel
        cases a
        all_goals
          go_wp2_with fail
          refine (recof_any _ [] _ (HBE.out _ _ (by simp))).mono ?_
          rw [show decB [] = (Rec.zero, 7) from rfl]
          rintro e w2 ⟨rfl, hb2⟩
          have HB := Lib.hid hb2; clear hb2
          simp only [Rec.zero, Ord.zero]
          go_wp2_with fail
          go_quiet (fail)
          go_wp2_with fail
          go_ret
          exact ⟨_, rfl, ((Quiet.below HB.out).alloc _).drewN _, by rw [H0.out]; exact (((Holds.old.below HB.out).alloc _).drewN _).nilRow _ _⟩
    · cases a with
      | none => exact absurd (HCC.out rfl) hz
      | some a =>
        go_enter Tryz.func64, Tryz.ntmps64
        go_wp2
        go_loopw [3, 4] (fun v i wr => v = .slice none 0 0 ∧ i = .int .i64 0 ∧ wr = w) (fun _ i _ => 0)
        case atStart => exact ⟨rfl, rfl, rfl⟩
        case round =>
          obtain ⟨rfl, rfl, rfl⟩ := hrel
          go_wp2_with fail
          refine (recof_any _ [] _ (HBE.out _ _ (fun h => by cases h))).mono ?_
          rw [show decB [] = (Rec.zero, 7) from rfl]
          rintro e w2 ⟨rfl, hb2⟩
          have HB := Lib.hid hb2; clear hb2
          simp only [Rec.zero, Ord.zero]
          go_wp2_with fail
          go_quiet (fail)
          go_wp2_with fail
          go_ret
          exact ⟨_, rfl, ((Quiet.below HB.out).alloc _).drewN _, by rw [H0.out]; exact (((Holds.old.below HB.out).alloc _).drewN _).nilRow _ _⟩
  · obtain ⟨g, off, rfl, _⟩ := c3 hl0
    clear c3 h
    go_enter Tryz.func64, Tryz.ntmps64
    go_wp2
    go_loopw [3, 4] (fun v i wr => ∃ (acc : List Rec) (p : Nat), p ≤ l.length ∧ i = .int .i64 p ∧ Hid (p = 9 * acc.length) ∧ Holds wr (recs v acc * old w) ∧ Quiet w wr ∧ allB l = acc ++ allFrom (l.length - p + 1) (lastE 0 acc) (l.drop p)) (fun _ i _ => l.length + 1 - (intOf i).toNat)
    case atStart => exact ⟨[], 0, by simp, rfl, by simp [Hid], Holds.nilRow Holds.old _ _, Quiet.refl _, by simp [allB, lastE]⟩
    case round =>
      obtain ⟨acc, p, hac, rfl, HK, ho, hqu, hall⟩ := hrel
      by_cases hcp : cc = p
      · subst hcp
        obtain ⟨n, hn⟩ : ∃ n, l.length = n := ⟨_, rfl⟩
        obtain rfl : cc = n := by omega
        have hd : l.drop cc = [] := List.drop_eq_nil_of_le c1
        rw [hn] at hac c1 hl
        have HN := Lib.hid hn
        rw [hn]
        have hs2 := HS.out.dropIf (q := cc) (by omega)
        rw [if_pos rfl, hd] at hs2
        rw [hd] at hall
        have hs3 := hs2.old ho
        have HO := Lib.hid ho; have HQU := Lib.hid hqu; have HALL := Lib.hid hall; have HS2 := Lib.hid hs3
        clear ho hqu hall hs2 hs3 hd hac c1
        rw [hn] at HS2 HALL
        rw [Nat.sub_self] at HS2 HALL
        clear hn
        have HA := Lib.hid (allFrom_short (0 + 1) (lastE 0 acc) [] (by simp))
        go_wp2_with fail
        refine (recof_any _ _ _ HS2.out).mono ?_
        rw [show decB [] = (Rec.zero, 7) from rfl]
        rintro e w2 ⟨rfl, hb2⟩
        have HO3 := Lib.hid (HO.out.below hb2); have HQ3 := Lib.hid (HQU.out.trans (Quiet.below hb2)); clear hb2
        simp only [Rec.zero, Ord.zero]
        go_wp2_with fail
        go_quiet (fail)
        go_wp2_with fail
        go_ret
        exact ⟨_, rfl, by first | exact HQ3.out.alloc _ | exact (HQ3.out.alloc _).drewN _, by rw [HALL.out, HA.out, List.append_nil]; first | exact HO3.out.alloc _ | exact (HO3.out.alloc _).drewN _⟩
      · have hs2 := HS.out.dropIf hac
        rw [if_neg hcp] at hs2
        have hs2 := hs2.old ho
        have HO := Lib.hid ho; have HQU := Lib.hid hqu; have HALL := Lib.hid hall; have HS2 := Lib.hid hs2
        clear ho hqu hall hs2
        obtain ⟨D, hD⟩ : ∃ D, decB (l.drop p) = D := ⟨_, rfl⟩
        obtain ⟨⟨ep, ⟨c, n, j, t, kk, m⟩⟩, code⟩ := D
        have HD := Lib.hid hD; clear hD
        by_cases h1 : code = 0
        · subst h1
          obtain rfl | ⟨init, r', rfl⟩ : acc = [] ∨ ∃ init r', acc = init ++ [r'] := by
            rcases List.eq_nil_or_concat acc with h | ⟨i, r, h⟩
            · exact .inl h
            · exact .inr ⟨i, r, by rw [h, List.concat_eq_append]⟩
          · by_cases hneg : ep < 0
            · exfalso
              have := (decB_ok (l := l.drop p) (by rw [HD.out]))
              rw [HD.out] at this
              have h1 := (chkR_range this.2.2.1).1.1
              rw [← this.2.2.2] at h1
              dsimp only at h1
              omega
            have HA := Lib.hid (allFrom_go (last := 0) HD.out (by omega))
            have hp9 := HA.out.1
            go_wp2_with fail
            refine (recof_any _ _ _ HS2.out).mono ?_
            rw [HD.out]
            rintro e w2 ⟨rfl, hb2⟩
            have HO3 := Lib.hid (HO.out.below hb2); have HQ3 := Lib.hid (HQU.out.trans (Quiet.below hb2)); clear hb2
            obtain ⟨a2, cap2, rfl, e1, e2⟩ := HO3.out.row.shape
            simp only [List.length_nil] at *
            go_wp2_with fail
            go_quiet (fail)
            obtain ⟨i0, hi, hz0, hz1, hz2⟩ := info_parts Tryz.infoRec
            go_wp2_with (at_builtin; refine wpList_append_sl rfl _ _ 136 rfl 103 i0 _ 7 56 Tryz.underlying136 hi hz0 hz1 hz2 rfl (by decide) rfl rfl (((HO3.out.allocB 103 (rcells ⟨ep, ⟨c, n, j, t, kk, m⟩⟩)).drewN _).alloc (.cells (rcells ⟨ep, ⟨c, n, j, t, kk, m⟩⟩).toArray 103)).two (RowAt.box (e := 103) (cs := rcells ⟨ep, ⟨c, n, j, t, kk, m⟩⟩) (by omega) (by simp)) rfl (rcells_ones _) (by simp <;> omega) (by simp <;> omega) ?_; intro v' w' hv' hq'; have HV := Lib.hid hv'; have HQ := Lib.hid hq'; clear hv' hq')
            go_roundw
            case rel => exact ⟨[] ++ [⟨ep, ⟨c, n, j, t, kk, m⟩⟩], p + 9, by omega, by go_num, by have := HK.out; simp [Hid] at this ⊢; omega, by simpa [recs, rvs_append, rvs] using HV.out.two.right, ((HQ3.out.alloc _).drewN _).alloc _ |>.trans HQ.out, by rw [HALL.out]; (first | rw [HA.out.2] | (show [] ++ allFrom (l.length - p + 1) 0 _ = _; rw [HA.out.2])); rw [lastE_snoc]; simp⟩
            case measure => simp [intOf]; omega
          · have hlen : (init ++ [r']).length = init.length + 1 := by simp
            have hll : init.length ≤ l.length := by have := HK.out; omega
            by_cases h2 : ep < r'.ep
            · have HA := Lib.hid (allFrom_end (n := l.length - p + 1) (last := lastE 0 (init ++ [r'])) HD.out (.inr (by rw [lastE_snoc]; exact h2)))
              go_wp2_with fail
              refine (recof_any _ _ _ HS2.out).mono ?_
              rw [HD.out]
              rintro e w2 ⟨rfl, hb2⟩
              have HO3 := Lib.hid (HO.out.below hb2); have HQ3 := Lib.hid (HQU.out.trans (Quiet.below hb2)); clear hb2
              obtain ⟨g2, off2, cap2, hv2, e1, e2, e3⟩ := HO3.out.row.get (by simp)
              rw [hlen] at hv2 e1
              subst hv2
              have e4 := rvs_cell e3 (i := init.length) (r := r') (by simp) 0 _ (by omega) rfl
              rw [Nat.add_zero] at e4
              have e5 : IntKind.i64.wrap (init.length : Int) = init.length := by rw [IntKind.wrap_i64]; omega
              have e6 : 0 < init.length + 1 := by omega
              have e7 : (0 : Int) < (init.length : Int) + 1 := by omega
              have e8 : (init.length : Int) < (init.length : Int) + 1 := by omega
              have E3 := Lib.hid e3; clear e3
              have glt := block_lt_of_cell e4
              dsimp only at glt
              go_wp2_with fail
              refine wp_region_lex (fun W => W.cell? ⟨g2, off2 + init.length * 7, none⟩ = some (.int .i64 r'.ep) ∧ W.cell? ⟨w2.heap.size, 0, none⟩ = some (.int .i64 ep)) [] (by kernel_rfl) (by kernel_rfl) (by constructor <;> go_simp) ?_
              repeat (first | (refine LexL.none (by rfl) ?_; (try simp only [Act.put, List.setIfInBounds_toArray, List.set_cons_zero, List.set_cons_succ])) | (refine LexL.still (v := ?_) (by rfl) ?_ ?_; rotate_left; (focus (intro W hW; (try dsimp only at hW); go_simp; (try (with_reducible rfl)); done)); (try simp only [Act.put, List.setIfInBounds_toArray, List.set_cons_zero, List.set_cons_succ])))
              refine LexL.done ?_
              go_wp2_with fail
              go_ret
              exact ⟨_, rfl, (HQ3.out.alloc _).drew, by rw [HALL.out, HA.out, List.append_nil]; exact (HO3.out.alloc _).drew⟩
            · have HA := Lib.hid (allFrom_go (last := lastE 0 (init ++ [r'])) HD.out (by rw [lastE_snoc]; exact h2))
              have hp9 := HA.out.1
              go_wp2_with fail
              refine (recof_any _ _ _ HS2.out).mono ?_
              rw [HD.out]
              rintro e w2 ⟨rfl, hb2⟩
              have HO3 := Lib.hid (HO.out.below hb2); have HQ3 := Lib.hid (HQU.out.trans (Quiet.below hb2)); clear hb2
              obtain ⟨g2, off2, cap2, hv2, e1, e2, e3⟩ := HO3.out.row.get (by simp)
              rw [hlen] at hv2 e1
              subst hv2
              have e4 := rvs_cell e3 (i := init.length) (r := r') (by simp) 0 _ (by omega) rfl
              rw [Nat.add_zero] at e4
              have e5 : IntKind.i64.wrap (init.length : Int) = init.length := by rw [IntKind.wrap_i64]; omega
              have e6 : 0 < init.length + 1 := by omega
              have e7 : (0 : Int) < (init.length : Int) + 1 := by omega
              have e8 : (init.length : Int) < (init.length : Int) + 1 := by omega
              have E3 := Lib.hid e3; clear e3
              have glt := block_lt_of_cell e4
              dsimp only at glt
              go_wp2_with fail
              refine wp_region_lex (fun W => W.cell? ⟨g2, off2 + init.length * 7, none⟩ = some (.int .i64 r'.ep) ∧ W.cell? ⟨w2.heap.size, 0, none⟩ = some (.int .i64 ep)) [] (by kernel_rfl) (by kernel_rfl) (by constructor <;> go_simp) ?_
              repeat (first | (refine LexL.none (by rfl) ?_; (try simp only [Act.put, List.setIfInBounds_toArray, List.set_cons_zero, List.set_cons_succ])) | (refine LexL.still (v := ?_) (by rfl) ?_ ?_; rotate_left; (focus (intro W hW; (try dsimp only at hW); go_simp; (try (with_reducible rfl)); done)); (try simp only [Act.put, List.setIfInBounds_toArray, List.set_cons_zero, List.set_cons_succ])))
              refine LexL.done ?_
              obtain ⟨i0, hi, hz0, hz1, hz2⟩ := info_parts Tryz.infoRec
              go_wp2_with (at_builtin; refine wpList_append_sl rfl _ _ 136 rfl 103 i0 _ 7 56 Tryz.underlying136 hi hz0 hz1 hz2 rfl (by decide) rfl rfl (((HO3.out.allocB 103 (rcells ⟨ep, ⟨c, n, j, t, kk, m⟩⟩)).drew).alloc (.cells (rcells ⟨ep, ⟨c, n, j, t, kk, m⟩⟩).toArray 103)).two (RowAt.box (e := 103) (cs := rcells ⟨ep, ⟨c, n, j, t, kk, m⟩⟩) (by omega) (by simp)) rfl (rcells_ones _) (by simp <;> omega) (by simp <;> omega) ?_; intro v' w' hv' hq'; have HV := Lib.hid hv'; have HQ := Lib.hid hq'; clear hv' hq')
              go_roundw
              case rel => exact ⟨(init ++ [r']) ++ [⟨ep, ⟨c, n, j, t, kk, m⟩⟩], p + 9, by omega, by go_num, by have := HK.out; simp [Hid] at this ⊢; omega, by simpa [recs, rvs_append, rvs] using HV.out.two.right, ((HQ3.out.alloc _).drew).alloc _ |>.trans HQ.out, by rw [HALL.out]; (first | rw [HA.out.2] | (show [] ++ allFrom (l.length - p + 1) 0 _ = _; rw [HA.out.2])); rw [lastE_snoc]; simp⟩
              case measure => simp [intOf]; omega
        · have h1' : (code != 0) = true := by simpa using h1
          have HA := Lib.hid (allFrom_end (n := l.length - p + 1) (last := lastE 0 acc) HD.out (.inl h1))
          go_wp2_with fail
          refine (recof_any _ _ _ HS2.out).mono ?_
          rw [HD.out]
          rintro e w2 ⟨rfl, hb2⟩
          have HO3 := Lib.hid (HO.out.below hb2); have HQ3 := Lib.hid (HQU.out.trans (Quiet.below hb2)); clear hb2
          go_wp2_with fail
          go_quiet (fail)
          go_wp2_with fail
          go_ret
          exact ⟨_, rfl, by first | exact HQ3.out.alloc _ | exact (HQ3.out.alloc _).drewN _, by rw [HALL.out, HA.out, List.append_nil]; first | exact HO3.out.alloc _ | exact (HO3.out.alloc _).drewN _⟩
end Go.Proofs.YtfihmpkkpgmdhaaGreatDoor

/-
  The reference's bytes of a record.
-/
namespace Go.Proofs.YtfihmpkkpgmdhaaGreatDoor
set_option maxRecDepth 100000
set_option linter.unusedSimpArgs false
set_option linter.unusedVariables false
open Go.RowKit

theorem iv_u8 {n : Int} (h0 : 0 ≤ n) (h1 : n ≤ 255) : Value.int .i64 ((u8 n).toNat : Int) = .int .i64 n := by
  unfold u8
  rw [UInt8.toNat_ofNat']
  congr 1
  omega
theorem encH_ints {r : Rec} (h : chkR r = 0) : (encH r).map (fun y => Value.int .i64 (y.toNat : Int)) = [.int .i64 r.ep, .int .i64 r.o.kind, .int .i64 (r.o.now / 256), .int .i64 (r.o.now % 256), .int .i64 r.o.job, .int .i64 r.o.tr, .int .i64 r.o.wk, .int .i64 r.o.tm] := by
  obtain ⟨p0, p1, hc⟩ := chkR_zero h
  obtain ⟨b0, b1, b2, b3, b4, b5, b6, b7, b8, b9, b10, b11⟩ := chk_bounds hc
  simp only [encH, List.map_cons, List.map_nil]
  rw [iv_u8 (by omega) (by omega), iv_u8 (by omega) (by omega), iv_u8 (by omega) (by omega), iv_u8 (by omega) (by omega), iv_u8 (by omega) (by omega), iv_u8 (by omega) (by omega), iv_u8 (by omega) (by omega), iv_u8 (by omega) (by omega)]

/-- What BytesOf leaves. -/
def BofPost (w : World) (r : Rec) (e : Ending) (w' : World) : Prop :=
  ∃ v, e = .returned v ∧ OwnB w' v (encB r) ∧ Below w.heap.size w w' ∧ ∀ k, v.ownBlock = some k → w.heap.size ≤ k
set_option maxRecDepth 100000 in
set_option maxHeartbeats 2000000 in
theorem bytesof_any (p c n j t k m : Int) (w : World) (h0 : chkR ⟨p, ⟨c, n, j, t, k, m⟩⟩ = 0) :
    Calls Tryz.prog 94 #[.agg #[.int .i64 p, .int .i64 c, .int .i64 n, .int .i64 j, .int .i64 t, .int .i64 k, .int .i64 m]] w (BofPost w ⟨p, ⟨c, n, j, t, k, m⟩⟩) := by
  obtain ⟨p0, p1, hc⟩ := chkR_zero h0
  obtain ⟨b0, b1, b2, b3, b4, b5, b6, b7, b8, b9, b10, b11⟩ := chk_bounds hc
  dsimp only at *
  have hi := encH_ints h0
  dsimp only at hi
  generalize hL : encH ⟨p, ⟨c, n, j, t, k, m⟩⟩ = L at *
  have hlen : L.length = 8 := by rw [← hL]; rfl
  have HL := Lib.hid hL; have H0 := Lib.hid h0; have HI := Lib.hid hi
  clear h0 hc hL hi
  obtain ⟨i0, hi, hz0, hz1, hz2⟩ := info_parts Tryz.infoU8
  go_enter Tryz.func94, Tryz.ntmps94
  go_wp2_with fail
  generalize hB : w.heap.size + 1 + 1 = B
  go_loopw [6, 5] (fun i v wr => ∃ q : Nat, q ≤ 8 ∧ i = .int .i64 q ∧ OwnB wr v (L.take q) ∧ BlockAt wr B 3 (L.map (fun y => Value.int .i64 (y.toNat : Int))) ∧ Below w.heap.size w wr ∧ (∀ k, v.ownBlock = some k → B < k)) (fun i _ _ => 8 - (intOf i).toNat)
  case atStart =>
    refine ⟨0, by omega, rfl, OwnB.nil _, ?_, ?_, by simp [Value.ownBlock]⟩
    · rw [HI.out, ← hB]
      have := BlockAt.new ((w.alloc (.cells #[.int .i64 p, .int .i64 c, .int .i64 n, .int .i64 j, .int .i64 t, .int .i64 k, .int .i64 m] 103)).alloc (.cells #[.int .i64 c, .int .i64 n, .int .i64 j, .int .i64 t, .int .i64 k, .int .i64 m] 84)) 3 [.int .i64 p, .int .i64 c, .int .i64 (n / 256), .int .i64 (n % 256), .int .i64 j, .int .i64 t, .int .i64 k, .int .i64 m]
      rw [World.size_alloc, World.size_alloc] at this
      exact this
    · exact (((Below.refl w.heap.size w).alloc (Nat.le_refl _) _).alloc (by simp) _).alloc (by simp; omega) _
  case round =>
    obtain ⟨q, hq, rfl, ho, hblk, hbw, hfr⟩ := hrel
    by_cases hlt : q < 8
    · have hx : (L.map (fun y => Value.int .i64 (y.toNat : Int)))[q]? = some (.int .i64 ((L.getD q 0).toNat : Int)) := by simp [hlen, hlt]
      have hcell := hblk.cell q _ hx
      have hBlt := hblk.lt
      have hy : IntKind.u8.wrap ((L.getD q 0).toNat : Int) = ((L.getD q 0).toNat : Int) := by
        have := (L.getD q 0).toNat_lt
        show ((L.getD q 0).toNat : Int) % 2 ^ 8 = _
        omega
      have hn := (own_new wr [.int .u8 ((L.getD q 0).toNat : Int)] [L.getD q 0] rfl (by simp)).bytes
      have ho2 := ho.upd (Upd.alloc (F := fun _ => False) (Upd.refl _ _) (.cells #[.int .u8 ((L.getD q 0).toNat : Int)] 5)) (fun _ _ h => h)
      have hT : L.take (q + 1) = L.take q ++ [L.getD q 0] := by
        rw [List.take_succ_eq_append_getElem (by omega)]
        simp [hlen, hlt]
      have HO2 := Lib.hid ho2; have HN := Lib.hid hn; have HBK := Lib.hid hblk; have HBW := Lib.hid hbw; have HFR := Lib.hid hfr; have HT := Lib.hid hT
      clear ho2 hn hblk hbw hfr hT hx ho
      generalize L.getD q 0 = y at *
      have hq8 : (q : Int) < 8 := by omega
      go_wp2_with (at_builtin; refine wpList_append_bytes (l := L.take q) (m := [y]) rfl _ _ 42 rfl 5 i0 Tryz.underlying42 hi hz0 hz1 hz2 rfl rfl rfl HO2.out HN.out (by simp; omega) ?_; intro v' w' hv' hu hfr')
      have hu' := Upd.mono (G := fun k => B < k) hu (fun k hk => HFR.out k hk)
      go_round
      case rel =>
        refine ⟨q + 1, by omega, by go_num, by rw [HT.out]; exact hv', ((HBK.out.alloc _).upd hu' (by omega)), (HBW.out.alloc HBW.out.size _).trans (hu'.below ?_ fun k hk => ?_), fun k hk => ?_⟩
        · have := HBW.out.size
          simp; omega
        · omega
        · rcases hfr' k hk with h | h
          · exact HFR.out k h
          · simp at h; omega
      case measure => simp [intOf]; omega
    · obtain rfl : q = 8 := by omega
      rw [List.take_of_length_le (by omega)] at ho
      have HO := Lib.hid ho; have HBW := Lib.hid hbw; have HFR := Lib.hid hfr; have hBlt := hblk.lt
      clear ho hblk hbw hfr
      go_wp2_with fail
      refine (rsum_any _ _ _ HO.out.bytes (by omega)).mono ?_
      rintro e w2 ⟨rfl, rfl⟩
      generalize hs : csum L = s
      have HS := Lib.hid hs; clear hs
      have ho2 := HO.out.upd (Upd.alloc (F := fun _ => False) (Upd.refl _ _) (.cells #[.int .u8 (s.toNat : Int)] 5)) (fun _ _ h => h)
      have hn2 := (own_new wr [.int .u8 (s.toNat : Int)] [s] rfl (by simp)).bytes
      have HO2 := Lib.hid ho2; have HN2 := Lib.hid hn2; clear ho2 hn2
      go_wp2_with (at_builtin; refine wpList_append_bytes (l := L) (m := [s]) rfl _ _ 42 rfl 5 i0 Tryz.underlying42 hi hz0 hz1 hz2 rfl rfl rfl HO2.out HN2.out (by simp; omega) ?_; intro v' w' hv' hu hfr')
      go_ret
      have hu' := Upd.mono (G := fun k => B < k) hu (fun k hk => HFR.out k hk)
      refine ⟨v', rfl, ?_, (HBW.out.alloc HBW.out.size _).trans (hu'.below ?_ fun k hk => ?_), fun k hk => ?_⟩
      · rw [encB, HL.out, HS.out]; exact hv'
      · have := HBW.out.size
        simp; omega
      · omega
      · rcases hfr' k hk with h | h
        · have := HFR.out k h; omega
        · simp at h; omega
end Go.Proofs.YtfihmpkkpgmdhaaGreatDoor


/-
  What stands in memory of a disk of the call's own; bytes as a text.
-/
namespace Go.Proofs.YtfihmpkkpgmdhaaGreatDoor
set_option maxRecDepth 100000
open Go.RowKit

/-- A disk of the call's own: nothing that was there when the call began is other. -/
structure DSt (w0 w : World) (b : Nat) (d : Dsk) (F : Nat → Prop) : Prop where
  ok : d.Ok
  at_ : DiskAt w b d F
  ge : ∀ k, F k → w0.heap.size ≤ k
  below : Below w0.heap.size w0 w
theorem DSt.upd {G : Nat → Prop} {w0 w w' : World} {b : Nat} {d : Dsk} {F : Nat → Prop} (h : DSt w0 w b d F) (hu : Upd G w w') (hs : Sep F G) (hg : ∀ k, G k → w0.heap.size ≤ k) : DSt w0 w' b d F :=
  ⟨h.ok, h.at_.upd hu hs, h.ge, h.below.trans (hu.below h.below.size hg)⟩
theorem DSt.new {w0 w : World} {b : Nat} {d : Dsk} {F : Nat → Prop} (h : DSt w0 w b d F) {w' : World} (hb : Below w.heap.size w w') : DSt w0 w' b d F :=
  h.upd (Upd.of_below hb (fun _ => False)) (fun _ _ h => h) (fun _ h => h.elim)
theorem DSt.alloc {w0 w : World} {b : Nat} {d : Dsk} {F : Nat → Prop} (h : DSt w0 w b d F) (o : Obj) : DSt w0 (w.alloc o) b d F :=
  h.new ((Below.refl _ _).alloc (Nat.le_refl _) o)
theorem DSt.drewN {w0 w : World} {b : Nat} {d : Dsk} {F : Nat → Prop} (h : DSt w0 w b d F) (n : Nat) : DSt w0 (w.drewN n) b d F :=
  h.new (below_drewN (Below.refl _ _) n)
theorem DSt.post {w0 w w' : World} {b : Nat} {d d' : Dsk} {F : Nat → Prop} {v : Value} {e : Ending} (h : DSt w0 w b d F) (hp : DiskPost w b F d' v e w') (hok : d'.Ok) : e = .returned v ∧ ∃ F', DSt w0 w' b d' F' ∧ From w F F' ∧ Upd F w w' := by
  obtain ⟨F', he, h1, h2, h3⟩ := hp
  exact ⟨he, F', ⟨hok, h1, h3.ge h.below.size h.ge, h.below.trans (h2.below h.below.size h.ge)⟩, h3, h2⟩
def DP (w0 : World) (b : Nat) (d : Dsk) (v : Value) (e : Ending) (w' : World) : Prop := e = .returned v ∧ ∃ F, DSt w0 w' b d F
theorem raise_st {w0 w : World} {b : Nat} {d : Dsk} {F : Nat → Prop} (h : DSt w0 w b d F) :
    Calls Tryz.prog 121 #[.pointer (some ⟨b, 0, none⟩)] w (DP w0 b d.raise.1 (.tuple #[.int .i64 d.raise.2.1, .int .i64 d.raise.2.2])) :=
  (raise_any b d F w h.at_ h.ok).mono fun _ _ hp => by obtain ⟨he, F', h1, _⟩ := h.post hp (Dsk.raise_ok h.ok); exact ⟨he, F', h1⟩
theorem append_st {w0 w : World} {b : Nat} {d : Dsk} {F : Nat → Prop} (h : DSt w0 w b d F) (x : Int) (y : Value) (m : List UInt8) (hy : BytesAt w y m) (hm : m.length ≤ 100000) :
    Calls Tryz.prog 137 #[.pointer (some ⟨b, 0, none⟩), .int .i64 x, y] w (DP w0 b (d.append x m).1 (.int .i64 (d.append x m).2)) :=
  (append_any b d F x y m w h.at_ h.ok hy hm).mono fun _ _ hp => by obtain ⟨he, F', h1, _⟩ := h.post hp (Dsk.append_ok h.ok x m); exact ⟨he, F', h1⟩
theorem cut_st {w0 w : World} {b : Nat} {d : Dsk} {F : Nat → Prop} (h : DSt w0 w b d F) (x n : Int) :
    Calls Tryz.prog 122 #[.pointer (some ⟨b, 0, none⟩), .int .i64 x, .int .i64 n] w (DP w0 b (d.cut x n).1 (.int .i64 (d.cut x n).2)) :=
  (cut_any b d F x n w h.at_ h.ok).mono fun _ _ hp => by obtain ⟨he, F', h1, _⟩ := h.post hp (Dsk.cut_ok h.ok x n); exact ⟨he, F', h1⟩
theorem dnew_st {w0 w : World} (hb : Below w0.heap.size w0 w) :
    Calls Tryz.prog 19 #[] w fun e w' => ∃ b F, e = .returned (.pointer (some ⟨b, 0, none⟩)) ∧ DSt w0 w' b Dsk.zero F :=
  (dnew_any w).mono fun _ _ ⟨b, F, he, h1, h2, h3⟩ => ⟨b, F, he, Dsk.zero_ok, h2, fun k hk => Nat.le_trans hb.size (h3 k hk), hb.trans (h1.mono hb.size)⟩

theorem bytesAt_const (w : World) (l : List UInt8) (C : Array Value) (fr : Nat × Nat) (hC : C = (bvs l).toArray) (hl : l.length ≤ 100000) : BytesAt (w.alloc (.cells C 5 fr)) (.slice (some ⟨w.heap.size, 0, none⟩) l.length l.length) l := by
  subst hC
  refine ⟨_, _, rfl, Nat.le_refl _, by simp only [maxLen]; omega, by simp, fun _ => ⟨_, _, rfl, fun j u hj => ?_⟩⟩
  rw [Nat.zero_add, World.cell?_alloc_mark]
  simpa using hj

theorem DSt.drew {w0 w : World} {b : Nat} {d : Dsk} {F : Nat → Prop} (h : DSt w0 w b d F) : DSt w0 w.drew b d F :=
  h.new (Below.drew (Below.refl _ _))
theorem DSt.far {w0 w : World} {b : Nat} {d : Dsk} {F : Nat → Prop} (h : DSt w0 w b d F) : ¬ F w.heap.size := fun hf => Nat.lt_irrefl _ (h.at_.inW _ hf)
/-- The string of bytes that one reads. -/
def strOf (l : List UInt8) : ByteArray := ⟨l.toArray⟩
theorem run_string_bytes {w : World} {v : Value} {l : List UInt8} (h : BytesAt w v l) : (convert 42 9 v).run Tryz.prog w = .ok (.string (strOf l)) w := by
  obtain ⟨a, c, rfl, h1, h2, h3, h4⟩ := h
  rw [run_convert_bytes_string w 42 9 5 a l.length c Tryz.underlying42 Tryz.underlying5 Tryz.underlying9]
  by_cases hl : l = []
  · subst hl
    cases a with
    | none => rfl
    | some a =>
      exact (run_bytesToString w a 0 c [] (by simp [loadCells, loadCellsFrom])).trans rfl
  · obtain ⟨g, off, rfl, h5⟩ := h4 hl
    have hc : (loadCells ⟨g, off, none⟩ l.length).run Tryz.prog w = .ok ((l.map fun x => (x.toNat : Int)).map (Value.int .u8)).toArray w := by
      have := run_loadCells_list (P := Tryz.prog) w ⟨g, off, none⟩ (bvs l) (fun j v hv => by rw [Addr.add_lit]; exact h5 j v hv)
      rw [bvs_length] at this
      rw [this]
      simp [bvs, bv, Function.comp_def]
    rw [run_bytesToString w _ _ c _ hc, foldl_push_bytes]
    simp [strOf, Function.comp_def]

theorem BytesAt.keep {w w' : World} {v : Value} {l : List UInt8} (h : BytesAt w v l) (hb : Below w.heap.size w w') : BytesAt w' v l :=
  h.upd (Upd.of_below hb (fun _ => False)) (fun _ _ h => h)
theorem cell_keep {w w' : World} {a : Addr} {v : Value} (hb : Below w.heap.size w w') (h : w.cell? a = some v) : w'.cell? a = some v :=
  (hb.cell (block_lt_of_cell h)).trans h
end Go.Proofs.YtfihmpkkpgmdhaaGreatDoor

/-
  The codec's contracts, beside whatever else stands in memory; appends of bytes and of records.
-/
namespace Go.Proofs.YtfihmpkkpgmdhaaGreatDoor
set_option maxRecDepth 100000
set_option linter.unusedSimpArgs false
set_option linter.unusedVariables false
open Go.RowKit
def Rec.val (r : Rec) : Value := .agg #[.int .i64 r.ep, .int .i64 r.o.kind, .int .i64 r.o.now, .int .i64 r.o.job, .int .i64 r.o.tr, .int .i64 r.o.wk, .int .i64 r.o.tm]
theorem enc_sl (p c n j t k m : Int) (w : World) {R : HP} (h : Holds w R) :
    Calls Tryz.prog 136 #[.agg #[.int .i64 p, .int .i64 c, .int .i64 n, .int .i64 j, .int .i64 t, .int .i64 k, .int .i64 m]] w (PostX w R (fun v => .tuple #[v, .int .i64 (chkR ⟨p, ⟨c, n, j, t, k, m⟩⟩)]) fun v => ownb v (if chkR ⟨p, ⟨c, n, j, t, k, m⟩⟩ = 0 then encB ⟨p, ⟨c, n, j, t, k, m⟩⟩ else [])) :=
  (encode_any p c n j t k m w).mono fun e w' ⟨v, he, ho, hb, hf⟩ => ⟨v, he, Quiet.below hb, h.newO hb ho hf⟩
theorem bof_sl (p c n j t k m : Int) (w : World) (h0 : chkR ⟨p, ⟨c, n, j, t, k, m⟩⟩ = 0) {R : HP} (h : Holds w R) :
    Calls Tryz.prog 94 #[.agg #[.int .i64 p, .int .i64 c, .int .i64 n, .int .i64 j, .int .i64 t, .int .i64 k, .int .i64 m]] w (PostX w R (fun v => v) fun v => ownb v (encB ⟨p, ⟨c, n, j, t, k, m⟩⟩)) :=
  (bytesof_any p c n j t k m w h0).mono fun e w' ⟨v, he, ho, hb, hf⟩ => ⟨v, he, Quiet.below hb, h.newO hb ho hf⟩
theorem all_sl (v : Value) (l : List UInt8) (w : World) (h : BytesAt w v l) (hl : l.length ≤ 100000) {R : HP} (hr : Holds w R) : Calls Tryz.prog 78 #[v] w (PostX w R (fun v => v) fun v => recs v (allB l)) :=
  (all_any v l w h hl).mono fun e w' ⟨v, he, q, ho⟩ => ⟨v, he, q, ho.frame hr⟩
theorem recsof_sl (v : Value) (l : List UInt8) (w : World) (h : BytesAt w v l) (hl : l.length ≤ 100000) {R : HP} (hr : Holds w R) : Calls Tryz.prog 64 #[v] w (PostX w R (fun v => v) fun v => recs v (allB l)) :=
  (recsof_any v l w h hl).mono fun e w' ⟨v, he, q, ho⟩ => ⟨v, he, q, ho.frame hr⟩
theorem Holds.nilB {w : World} {A : HP} (h : Holds w A) : Holds w (Go.Proofs.YtfihmpkkpgmdhaaGreatDoor.ownb (.slice none 0 0) [] * A) := by rw [ownb_row]; exact h.nilRow _ _
theorem Holds.nilR {w : World} {A : HP} (h : Holds w A) : Holds w (recs (.slice none 0 0) [] * A) := h.nilRow _ _
theorem BytesAt.shape {w : World} {v : Value} {l : List UInt8} (h : BytesAt w v l) : ∃ a c, v = .slice a l.length c ∧ l.length ≤ c ∧ c ≤ 9223372036854775807 := h.row.shape
theorem BytesAt.nil (w : World) : BytesAt w (.slice none 0 0) [] := ⟨none, 0, rfl, Nat.le_refl _, Nat.zero_le _, fun _ => rfl, fun h => absurd rfl h⟩
theorem BytesAt.box {w : World} {l : List UInt8} {cs : List Value} (hc : cs = bvs l) (hl : l.length ≤ 1000000) {g : Nat} (hg : w.heap.size = g) : BytesAt (w.alloc (.cells cs.toArray 5)) (.slice (some ⟨g, 0, none⟩) l.length l.length) l := by
  subst hc
  exact (RowAt.box (cs := bvs l) hl hg).bytes
/-- append of bytes. -/
theorem wpList_append_ob {w : World} {ops : Array Oper} {rest : List Oper} {o : Oper} {a : Act} {Q : Exit → Act → World → Prop} (hgd : o.guard = none) (s x : Operand)
    (ho : o.op = .call { callee := .builtin .append, args := #[s, x], argTypes := #[42, 42] })
    {v y : Value} {l m : List UInt8} {R : HP} (hs : a.eval s = v) (hx : a.eval x = y) (hv : Holds w (ownb v l * R)) (hy : BytesAt w y m) (hlen : l.length + m.length ≤ 140737488355328)
    (h : ∀ v' w', Holds w' (ownb v' (l ++ m) * R) → Quiet w w' → wpList Tryz.prog ops Q rest (a.put o.dst v') w') : wpList Tryz.prog ops Q (o :: rest) a w := by
  obtain ⟨i0, hi, hz0, hz1, hz2⟩ := info_parts Tryz.infoU8
  rw [ownb_row] at hv
  refine wpList_append_sl hgd s x 42 ho 5 i0 _ 1 1 Tryz.underlying42 hi hz0 hz1 hz2 rfl (by decide) hs hx hv hy.row (by simp) (bvs_ones m) (by omega) hlen fun v' w' h1 h2 => h v' w' ?_ h2
  rw [ownb_row, bvs_append, List.length_append]
  exact h1
/-- append of one record. -/
theorem wpList_append_recs {w : World} {ops : Array Oper} {rest : List Oper} {o : Oper} {a : Act} {Q : Exit → Act → World → Prop} (hgd : o.guard = none) (s x : Operand)
    (ho : o.op = .call { callee := .builtin .append, args := #[s, x], argTypes := #[136, 136] })
    {v y : Value} {l : List Rec} {r : Rec} {R : HP} (hs : a.eval s = v) (hx : a.eval x = y) (hv : Holds w (recs v l * R)) (hy : RowAt w y 1 (rcells r)) (hlen : l.length ≤ 100000)
    (h : ∀ v' w', Holds w' (recs v' (l ++ [r]) * R) → Quiet w w' → wpList Tryz.prog ops Q rest (a.put o.dst v') w') : wpList Tryz.prog ops Q (o :: rest) a w := by
  obtain ⟨i0, hi, hz0, hz1, hz2⟩ := info_parts Tryz.infoRec
  refine wpList_append_sl hgd s x 136 ho 103 i0 _ 7 56 Tryz.underlying136 hi hz0 hz1 hz2 rfl (by decide) hs hx hv hy rfl (rcells_ones r) (by omega) (by omega) fun v' w' h1 h2 => h v' w' ?_ h2
  unfold recs
  rw [rvs_append, List.length_append]
  simpa [rvs] using h1

end Go.Proofs.YtfihmpkkpgmdhaaGreatDoor

/-
  Contracts: the package jobs, walked: take, do.
-/
namespace Go.Proofs.YtfihmpkkpgmdhaaGreatDoor
open Go.RowKit

set_option maxHeartbeats 2000000 in
theorem take_any (b : Nat) (tb : Tbl) (c n j t k m : Int) (w : World) (h : TableAt w b tb) (hok : tb.Ok) (hm0 : 1 ≤ m) (hm1 : m ≤ 20) :
    Calls Tryz.prog 126 #[.pointer (some ⟨b, 0, none⟩), .agg #[.int .i64 c, .int .i64 n, .int .i64 j, .int .i64 t, .int .i64 k, .int .i64 m]] w (AnsPost w b (ctake tb k m)) := by
  have hlt := h.lt
  have hn0 := hok.now.1
  have hn1 := hok.now.2
  have H := Lib.hid h; clear h
  have HO := Lib.hid hok; clear hok
  go_enter Tryz.func126, Tryz.ntmps126
  go_wp2
  go_loopw [7, 5, 6] (fun i _ _ wr => ∃ (q : Nat), q ≤ 6 ∧ i = .int .i64 q ∧ wr = (w.alloc (.cells #[.int .i64 c, .int .i64 n, .int .i64 j, .int .i64 t, .int .i64 k, .int .i64 m] 84)).alloc (.cells #[.int .i64 0, .int .i64 0, .int .i64 0] 88) ∧ Hid (∀ i, i < q → (tb.jobs i).st ≠ 1)) (fun i _ _ _ => 6 - (intOf i).toNat)
  case atStart => exact ⟨0, by omega, rfl, rfl, by simp [Hid]⟩
  case round =>
    obtain ⟨q, hq, rfl, rfl, hno⟩ := hrel
    by_cases hlt : q < 6
    · obtain ⟨c0, c1, c2, c3⟩ := H.out.job hlt
      have c24 := H.out.cell 24 _ rfl
      have f0 := H.out.free (q * 4)
      have f1 := H.out.free (q * 4 + 1)
      have f2 := H.out.free (q * 4 + 2)
      have f3 := H.out.free (q * 4 + 3)
      have ht0 := (HO.out.jobs q).tr.1
      have ht1 := (HO.out.jobs q).tr.2
      by_cases hs : (tb.jobs q).st = 1
      · have hs1 : ((tb.jobs q).st == 1) = true := by simpa using hs
        have HS := Lib.hid hs; clear hs
        go_wp2
        go_region
        go_wp2
        have e : ctake tb k m = (tb.set q ⟨2, k, (tb.jobs q).tr + 1, tb.now + m⟩, ⟨0, q, (tb.jobs q).tr + 1⟩) := by
          rw [ctake, firstW_some 6 0 q (fun j _ hj => hno.out j hj) (by omega) (by omega) HS.out]
        rw [e]
        refine bodyPost_ret (v := .agg #[.int .i64 0, .int .i64 q, .int .i64 ((tb.jobs q).tr + 1)]) (by simp [results, Tryz.results126, go_sem]) rfl ⟨rfl, ?_, ?_⟩
        · repeat (first | with_reducible exact grown_refl _ _ | with_reducible refine grown_drew ?_ | with_reducible refine grown_alloc ?_ _ | with_reducible refine grown_setCell ?_ _ _)
        · exact ((TableAt.setJob H.out hlt ⟨2, k, (tb.jobs q).tr + 1, tb.now + m⟩).alloc _).alloc _
      · have hs1 : ((tb.jobs q).st == 1) = false := by simpa using hs
        have HS := Lib.hid hs; clear hs
        go_wp2
        go_roundw
        case rel => exact ⟨q + 1, by omega, by go_num, (by first | trivial | rfl), fun i hi => by
          by_cases e : i = q
          · subst e; exact HS.out
          · exact hno.out i (by omega)⟩
        case measure => simp [intOf]; omega
    · obtain rfl : q = 6 := by omega
      go_wp2
      have e : ctake tb k m = (tb, ⟨5, 0, 0⟩) := by
        rw [ctake, firstW_none 6 0 (fun j _ hj => hno.out j (by omega))]
      rw [e]
      refine bodyPost_ret (v := .agg #[.int .i64 5, .int .i64 0, .int .i64 0]) (by simp [results, Tryz.results126, go_sem]) rfl ⟨rfl, ?_, ?_⟩
      · repeat (first | with_reducible exact grown_refl _ _ | with_reducible refine grown_drew ?_ | with_reducible refine grown_alloc ?_ _ | with_reducible refine grown_setCell ?_ _ _)
      · exact (BlockAt.alloc H.out _).alloc _

def actArgs (b : Nat) (c n j t k m : Int) : Array Value := #[.pointer (some ⟨b, 0, none⟩), .agg #[.int .i64 c, .int .i64 n, .int .i64 j, .int .i64 t, .int .i64 k, .int .i64 m]]

set_option maxHeartbeats 2000000 in
theorem act_2 (b : Nat) (tb : Tbl) (n j t k m : Int) (w : World) (h : TableAt w b tb) (hok : tb.Ok) (hj0 : 0 ≤ j) (hj1 : j ≤ 5) (hm0 : 1 ≤ m) (hm1 : m ≤ 20) :
    Calls Tryz.prog 109 (actArgs b 2 n j t k m) w (AnsPost w b (tb.act ⟨2, n, j, t, k, m⟩)) := by
  unfold actArgs
  rw [act_take]
  generalize hX : ctake tb k m = X
  have HC := Lib.hid hX; clear hX
  have hlt := h.lt
  have H := Lib.hid h; clear h
  have HO := Lib.hid hok; clear hok
  obtain ⟨q, rfl⟩ := Int.eq_ofNat_of_zero_le hj0
  go_enter Tryz.func109, Tryz.ntmps109
  go_wp2
  go_quiet (fail)
  go_wp2_with fail
  refine (take_any b tb _ _ _ _ _ _ _ (BlockAt.drewN ((BlockAt.alloc H.out _).alloc _) _) HO.out hm0 hm1).mono ?_
  rw [HC.out]
  rintro e w' ⟨rfl, hg, ht⟩
  have hx := (BlockAt.drewN (BlockAt.new (w.alloc (.cells #[.int .i64 2, .int .i64 n, .int .i64 q, .int .i64 t, .int .i64 k, .int .i64 m] 84)) 88 [.int .i64 0, .int .i64 0, .int .i64 0]) nq).other hg (by simp; omega)
  simp only [World.size_alloc] at hx
  have k1 := hx.cells
  have k2 := hx.frees
  have HX := Lib.hid hx; clear hx
  have HT := Lib.hid ht; clear ht
  go_wp2
  refine bodyPost_ret (v := .agg #[.int .i64 X.2.code, .int .i64 X.2.job, .int .i64 X.2.tr]) (by simp [results, Tryz.results109, go_sem, k1]) rfl ⟨rfl, ?_, ?_⟩
  · have h1 := grown_then (grown_drewN (grown_alloc (grown_alloc (grown_refl w (some b)) _) _) _) hg (.inl rfl)
    repeat (first | with_reducible exact h1 | refine grown_setNew ?_ (by simp) _)
  · unfold TableAt
    refine BlockAt.setOther (BlockAt.setOther (BlockAt.setOther ?_ (by simp; omega) _) (by simp; omega) _) (by simp; omega) _
    exact HT.out

set_option maxHeartbeats 2000000 in
theorem act_1 (b : Nat) (tb : Tbl) (n j t k m : Int) (w : World) (h : TableAt w b tb) (hok : tb.Ok) (hj0 : 0 ≤ j) (hj1 : j ≤ 5) :
    Calls Tryz.prog 109 (actArgs b 1 n j t k m) w (AnsPost w b (tb.act ⟨1, n, j, t, k, m⟩)) := by
  unfold actArgs
  obtain ⟨q, rfl⟩ := Int.eq_ofNat_of_zero_le hj0
  have hq : q < 6 := by omega
  obtain ⟨c0, c1, c2, c3⟩ := h.job hq
  have f0 := h.free (q * 4)
  have hlt := h.lt
  have H := Lib.hid h; clear h
  have HO := Lib.hid hok; clear hok
  by_cases hs : (tb.jobs q).st = 0
  · have hs1 : ((tb.jobs q).st != 0) = false := by simpa using hs
    have hs2 : ((tb.jobs q).st == 0) = true := by simpa using hs
    have e : tb.act ⟨1, n, q, t, k, m⟩ = (tb.set q ⟨1, 0, 0, 0⟩, ⟨0, 0, 0⟩) := by simp [Tbl.act, hs]
    rw [e]; clear e
    have HS := Lib.hid hs; clear hs
    go_enter Tryz.func109, Tryz.ntmps109
    go_wp2
    go_quiet (fail)
    go_wp2
    refine bodyPost_ret (v := .agg #[.int .i64 0, .int .i64 0, .int .i64 0]) (by simp [results, Tryz.results109, go_sem]) rfl ⟨rfl, ?_, ?_⟩
    · repeat (first | with_reducible exact grown_refl _ _ | with_reducible refine grown_drewN ?_ _ | with_reducible refine grown_drew ?_ | with_reducible refine grown_alloc ?_ _ | with_reducible refine grown_setCell ?_ _ _ | refine grown_setNew ?_ (by simp) _)
    · unfold TableAt
      refine BlockAt.setOther (BlockAt.setOther (BlockAt.setOther ?_ (by simp; omega) _) (by simp; omega) _) (by simp; omega) _
      exact TableAt.setSt (BlockAt.drewN ((BlockAt.alloc H.out _).alloc _) _) hq ((HO.out.jobs q).ab HS.out)
  · have hs1 : ((tb.jobs q).st != 0) = true := by simpa using hs
    have hs2 : ((tb.jobs q).st == 0) = false := by simpa using hs
    have e : tb.act ⟨1, n, q, t, k, m⟩ = (tb, ⟨4, 0, 0⟩) := by simp [Tbl.act, hs]
    rw [e]; clear e
    have HS := Lib.hid hs; clear hs
    go_enter Tryz.func109, Tryz.ntmps109
    go_wp2
    go_quiet (fail)
    go_wp2
    refine bodyPost_ret (v := .agg #[.int .i64 4, .int .i64 0, .int .i64 0]) (by simp [results, Tryz.results109, go_sem]) rfl ⟨rfl, ?_, ?_⟩
    · repeat (first | with_reducible exact grown_refl _ _ | with_reducible refine grown_drewN ?_ _ | with_reducible refine grown_drew ?_ | with_reducible refine grown_alloc ?_ _ | with_reducible refine grown_setCell ?_ _ _ | refine grown_setNew ?_ (by simp) _)
    · unfold TableAt
      refine BlockAt.setOther (BlockAt.setOther (BlockAt.setOther ?_ (by simp; omega) _) (by simp; omega) _) (by simp; omega) _
      exact BlockAt.drewN ((BlockAt.alloc H.out _).alloc _) _

set_option maxHeartbeats 4000000 in
theorem act_5 (b : Nat) (tb : Tbl) (c n j t k m : Int) (w : World) (h : TableAt w b tb) (hc : c = 3 ∨ c = 4 ∨ c = 5) (hj0 : 0 ≤ j) (hj1 : j ≤ 5) (hs : (tb.jobs j.toNat).st = 0) :
    Calls Tryz.prog 109 (actArgs b c n j t k m) w (AnsPost w b (tb.act ⟨c, n, j, t, k, m⟩)) := by
  unfold actArgs
  rw [act_absent tb c n j t k m hc hs]
  obtain ⟨q, rfl⟩ := Int.eq_ofNat_of_zero_le hj0
  have hq : q < 6 := by omega
  simp only [Int.toNat_natCast] at hs
  obtain ⟨c0, c1, c2, c3⟩ := h.job hq
  have hlt := h.lt
  have H := Lib.hid h; clear h
  have hs2 : ((tb.jobs q).st == 0) = true := by simpa using hs
  clear hs
  rcases hc with rfl | rfl | rfl
  all_goals
    go_enter Tryz.func109, Tryz.ntmps109
    go_wp2
    go_quiet (fail)
    go_wp2
    refine bodyPost_ret (v := .agg #[.int .i64 5, .int .i64 0, .int .i64 0]) (by simp [results, Tryz.results109, go_sem]) rfl ⟨rfl, ?_, ?_⟩
    · repeat (first | with_reducible exact grown_refl _ _ | with_reducible refine grown_drewN ?_ _ | with_reducible refine grown_drew ?_ | with_reducible refine grown_alloc ?_ _ | with_reducible refine grown_setCell ?_ _ _ | refine grown_setNew ?_ (by simp) _)
    · unfold TableAt
      refine BlockAt.setOther (BlockAt.setOther (BlockAt.setOther ?_ (by simp; omega) _) (by simp; omega) _) (by simp; omega) _
      exact BlockAt.drewN ((BlockAt.alloc H.out _).alloc _) _

set_option maxHeartbeats 8000000 in
theorem act_6 (b : Nat) (tb : Tbl) (c n j t k m : Int) (w : World) (h : TableAt w b tb) (hc : c = 3 ∨ c = 4 ∨ c = 5) (hj0 : 0 ≤ j) (hj1 : j ≤ 5) (h0 : (tb.jobs j.toNat).st ≠ 0)
    (hs : (tb.jobs j.toNat).st ≠ 2 ∨ (tb.jobs j.toNat).wk ≠ k ∨ (tb.jobs j.toNat).tr ≠ t) :
    Calls Tryz.prog 109 (actArgs b c n j t k m) w (AnsPost w b (tb.act ⟨c, n, j, t, k, m⟩)) := by
  unfold actArgs
  rw [act_else tb c n j t k m hc h0 hs]
  obtain ⟨q, rfl⟩ := Int.eq_ofNat_of_zero_le hj0
  have hq : q < 6 := by omega
  simp only [Int.toNat_natCast] at hs h0
  obtain ⟨c0, c1, c2, c3⟩ := h.job hq
  have hlt := h.lt
  have H := Lib.hid h; clear h
  have hs2 : ((tb.jobs q).st == 0) = false := by simpa using h0
  clear h0
  by_cases e1 : (tb.jobs q).st = 2
  · have e1b : ((tb.jobs q).st != 2) = false := by simpa using e1
    by_cases e2 : (tb.jobs q).wk = k
    · have e2b : ((tb.jobs q).wk != k) = false := by simpa using e2
      have e3 : (tb.jobs q).tr ≠ t := by rcases hs with h | h | h <;> first | exact absurd e1 h | exact absurd e2 h | exact h
      have e3b : ((tb.jobs q).tr != t) = true := by simpa using e3
      clear e1 e2 e3 hs
      rcases hc with rfl | rfl | rfl
      all_goals
        go_enter Tryz.func109, Tryz.ntmps109
        go_wp2
        go_quiet (fail)
        go_wp2
        go_quiet (fail)
        go_wp2
        refine bodyPost_ret (v := .agg #[.int .i64 6, .int .i64 0, .int .i64 0]) (by simp [results, Tryz.results109, go_sem]) rfl ⟨rfl, ?_, ?_⟩
        · repeat (first | with_reducible exact grown_refl _ _ | with_reducible refine grown_drewN ?_ _ | with_reducible refine grown_drew ?_ | with_reducible refine grown_alloc ?_ _ | with_reducible refine grown_setCell ?_ _ _ | refine grown_setNew ?_ (by simp) _)
        · unfold TableAt
          refine BlockAt.setOther (BlockAt.setOther (BlockAt.setOther ?_ (by simp; omega) _) (by simp; omega) _) (by simp; omega) _
          exact BlockAt.drewN ((BlockAt.alloc H.out _).alloc _) _
    · have e2b : ((tb.jobs q).wk != k) = true := by simpa using e2
      clear e1 e2 hs
      rcases hc with rfl | rfl | rfl
      all_goals
        go_enter Tryz.func109, Tryz.ntmps109
        go_wp2
        go_quiet (fail)
        go_wp2
        go_quiet (fail)
        go_wp2
        refine bodyPost_ret (v := .agg #[.int .i64 6, .int .i64 0, .int .i64 0]) (by simp [results, Tryz.results109, go_sem]) rfl ⟨rfl, ?_, ?_⟩
        · repeat (first | with_reducible exact grown_refl _ _ | with_reducible refine grown_drewN ?_ _ | with_reducible refine grown_drew ?_ | with_reducible refine grown_alloc ?_ _ | with_reducible refine grown_setCell ?_ _ _ | refine grown_setNew ?_ (by simp) _)
        · unfold TableAt
          refine BlockAt.setOther (BlockAt.setOther (BlockAt.setOther ?_ (by simp; omega) _) (by simp; omega) _) (by simp; omega) _
          exact BlockAt.drewN ((BlockAt.alloc H.out _).alloc _) _
  · have e1b : ((tb.jobs q).st != 2) = true := by simpa using e1
    clear e1 hs
    rcases hc with rfl | rfl | rfl
    all_goals
      go_enter Tryz.func109, Tryz.ntmps109
      go_wp2
      go_quiet (fail)
      go_wp2
      go_quiet (fail)
      go_wp2
      refine bodyPost_ret (v := .agg #[.int .i64 6, .int .i64 0, .int .i64 0]) (by simp [results, Tryz.results109, go_sem]) rfl ⟨rfl, ?_, ?_⟩
      · repeat (first | with_reducible exact grown_refl _ _ | with_reducible refine grown_drewN ?_ _ | with_reducible refine grown_drew ?_ | with_reducible refine grown_alloc ?_ _ | with_reducible refine grown_setCell ?_ _ _ | refine grown_setNew ?_ (by simp) _)
      · unfold TableAt
        refine BlockAt.setOther (BlockAt.setOther (BlockAt.setOther ?_ (by simp; omega) _) (by simp; omega) _) (by simp; omega) _
        exact BlockAt.drewN ((BlockAt.alloc H.out _).alloc _) _

set_option maxHeartbeats 8000000 in
theorem act_345 (b : Nat) (tb : Tbl) (c n j t k m : Int) (w : World) (h : TableAt w b tb) (hok : tb.Ok) (hc : c = 3 ∨ c = 4 ∨ c = 5) (hj0 : 0 ≤ j) (hj1 : j ≤ 5) (hm0 : 0 ≤ m) (hm1 : m ≤ 20)
    (h0 : (tb.jobs j.toNat).st = 2) (h1 : (tb.jobs j.toNat).wk = k) (h2 : (tb.jobs j.toNat).tr = t) :
    Calls Tryz.prog 109 (actArgs b c n j t k m) w (AnsPost w b (tb.act ⟨c, n, j, t, k, m⟩)) := by
  unfold actArgs
  rw [act_held tb c n j t k m h0 h1 h2 hc]
  obtain ⟨q, rfl⟩ := Int.eq_ofNat_of_zero_le hj0
  have hq : q < 6 := by omega
  simp only [Int.toNat_natCast] at h0 h1 h2 ⊢
  obtain ⟨c0, c1, c2, c3⟩ := h.job hq
  have c24 := h.cell 24 _ rfl
  have f0 := h.free (q * 4)
  have f1 := h.free (q * 4 + 1)
  have f2 := h.free (q * 4 + 2)
  have f3 := h.free (q * 4 + 3)
  have hn0 := hok.now.1
  have hn1 := hok.now.2
  have hlt := h.lt
  have H := Lib.hid h; clear h hok
  have e0 : ((tb.jobs q).st == 0) = false := by rw [h0]; rfl
  have e1 : ((tb.jobs q).st != 2) = false := by rw [h0]; rfl
  have e2 : ((tb.jobs q).wk != k) = false := by simpa using h1
  have e3 : ((tb.jobs q).tr != t) = false := by simpa using h2
  clear h0 h1 h2
  rcases hc with rfl | rfl | rfl
  · go_enter Tryz.func109, Tryz.ntmps109
    go_wp2
    go_quiet (fail)
    go_wp2
    go_quiet (fail)
    go_wp2
    go_region
    go_wp2
    refine bodyPost_ret (v := .agg #[.int .i64 0, .int .i64 0, .int .i64 0]) (by simp [results, Tryz.results109, go_sem]) rfl ⟨rfl, ?_, ?_⟩
    · repeat (first | with_reducible exact grown_refl _ _ | with_reducible refine grown_drewN ?_ _ | with_reducible refine grown_drew ?_ | with_reducible refine grown_alloc ?_ _ | with_reducible refine grown_setCell ?_ _ _ | refine grown_setNew ?_ (by simp) _)
    · unfold TableAt
      refine BlockAt.setOther (BlockAt.setOther (BlockAt.setOther ?_ (by simp; omega) _) (by simp; omega) _) (by simp; omega) _
      exact TableAt.setUn (BlockAt.drewN ((BlockAt.alloc H.out _).alloc _) _) hq _
  · go_enter Tryz.func109, Tryz.ntmps109
    go_wp2
    go_quiet (fail)
    go_wp2
    go_quiet (fail)
    go_wp2
    go_region
    go_wp2
    refine bodyPost_ret (v := .agg #[.int .i64 0, .int .i64 0, .int .i64 0]) (by simp [results, Tryz.results109, go_sem]) rfl ⟨rfl, ?_, ?_⟩
    · repeat (first | with_reducible exact grown_refl _ _ | with_reducible refine grown_drewN ?_ _ | with_reducible refine grown_drew ?_ | with_reducible refine grown_alloc ?_ _ | with_reducible refine grown_setCell ?_ _ _ | refine grown_setNew ?_ (by simp) _)
    · unfold TableAt
      refine BlockAt.setOther (BlockAt.setOther (BlockAt.setOther ?_ (by simp; omega) _) (by simp; omega) _) (by simp; omega) _
      exact TableAt.setJob (BlockAt.drewN ((BlockAt.alloc H.out _).alloc _) _) hq ⟨3, (tb.jobs q).wk, (tb.jobs q).tr, 0⟩
  · go_enter Tryz.func109, Tryz.ntmps109
    go_wp2
    go_quiet (fail)
    go_wp2
    go_quiet (fail)
    go_wp2_with fail
    refine (pass_any b (tb.set q { tb.jobs q with un := tb.now }) _ _ (TableAt.setUn (BlockAt.drewN ((BlockAt.alloc H.out _).alloc _) _) hq _)).mono ?_
    rintro e w' ⟨rfl, hg, ht⟩
    have hx := ((BlockAt.drewN (BlockAt.new (w.alloc (.cells #[.int .i64 5, .int .i64 n, .int .i64 q, .int .i64 t, .int .i64 k, .int .i64 m] 84)) 88 [.int .i64 0, .int .i64 0, .int .i64 0]) _).setOther (by simp; omega) _).other hg (by simp; omega)
    simp only [World.size_alloc] at hx
    have k1 := hx.cells
    have k2 := hx.frees
    have HX := Lib.hid hx; clear hx
    have HT := Lib.hid ht; clear ht
    go_wp2
    refine bodyPost_ret (v := .agg #[.int .i64 0, .int .i64 0, .int .i64 0]) (by simp [results, Tryz.results109, go_sem, k1]) rfl ⟨rfl, ?_, ?_⟩
    · have h1 := grown_then (grown_setCell (grown_drewN (grown_alloc (grown_alloc (grown_refl w (some b)) _) _) _) _ _) hg (.inl rfl)
      repeat (first | with_reducible exact h1 | refine grown_setNew ?_ (by simp) _)
    · unfold TableAt
      refine BlockAt.setOther (BlockAt.setOther (BlockAt.setOther ?_ (by simp; omega) _) (by simp; omega) _) (by simp; omega) _
      exact HT.out

theorem act_any (b : Nat) (tb : Tbl) (o : Ord) (w : World) (h : TableAt w b tb) (hok : tb.Ok) (ho : chk o = 0) :
    Calls Tryz.prog 109 #[.pointer (some ⟨b, 0, none⟩), .agg #[.int .i64 o.kind, .int .i64 o.now, .int .i64 o.job, .int .i64 o.tr, .int .i64 o.wk, .int .i64 o.tm]] w (AnsPost w b (tb.act o)) := by
  obtain ⟨c, n, j, t, k, m⟩ := o
  obtain ⟨hj, hc, hm2, hm⟩ := chk_zero ho
  dsimp only at *
  rcases hc with rfl | rfl | hc
  · exact act_1 b tb n j t k m w h hok hj.1 hj.2
  · exact act_2 b tb n j t k m w h hok hj.1 hj.2 (hm2 (.inl rfl)) hm.2
  · by_cases h0 : (tb.jobs j.toNat).st = 0
    · exact act_5 b tb c n j t k m w h hc hj.1 hj.2 h0
    · by_cases h1 : (tb.jobs j.toNat).st = 2 ∧ (tb.jobs j.toNat).wk = k ∧ (tb.jobs j.toNat).tr = t
      · exact act_345 b tb c n j t k m w h hok hc hj.1 hj.2 hm.1 hm.2 h1.1 h1.2.1 h1.2.2
      · refine act_6 b tb c n j t k m w h hc hj.1 hj.2 h0 ?_
        by_cases a : (tb.jobs j.toNat).st = 2
        · by_cases b' : (tb.jobs j.toNat).wk = k
          · exact .inr (.inr fun e => h1 ⟨a, b', e⟩)
          · exact .inr (.inl b')
        · exact .inl a

end Go.Proofs.YtfihmpkkpgmdhaaGreatDoor

/-
  Contracts: the package jobs, walked: Do.
-/
namespace Go.Proofs.YtfihmpkkpgmdhaaGreatDoor
open Go.RowKit

set_option maxHeartbeats 2000000 in
theorem do_no (b : Nat) (tb : Tbl) (c n j t k m : Int) (w : World) (h : TableAt w b tb) (ho : chk ⟨c, n, j, t, k, m⟩ ≠ 0) :
    Calls Tryz.prog 79 #[.pointer (some ⟨b, 0, none⟩), .agg #[.int .i64 c, .int .i64 n, .int .i64 j, .int .i64 t, .int .i64 k, .int .i64 m]] w (AnsPost w b (tb.did ⟨c, n, j, t, k, m⟩)) := by
  rw [did_no ho]
  generalize hC : chk ⟨c, n, j, t, k, m⟩ = C at *
  have HC := Lib.hid hC; clear hC
  have hc1 : (C != 0) = true := by simpa using ho
  clear ho
  have hlt := h.lt
  have H := Lib.hid h; clear h
  go_enter Tryz.func79, Tryz.ntmps79
  go_wp2_with fail
  refine (check_any c n j t k m _).mono ?_
  rw [HC.out]
  rintro e w' ⟨rfl, hb⟩
  have hx := (BlockAt.new (w.alloc (.cells #[.int .i64 c, .int .i64 n, .int .i64 j, .int .i64 t, .int .i64 k, .int .i64 m] 84)) 88 [.int .i64 0, .int .i64 0, .int .i64 0]).below hb (by simp)
  simp only [World.size_alloc] at hx
  have k1 := hx.cells
  have k2 := hx.frees
  have HB := Lib.hid hb; clear hb
  have HX := Lib.hid hx; clear hx
  go_wp2
  refine bodyPost_ret (v := .agg #[.int .i64 C, .int .i64 0, .int .i64 0]) (by simp [results, Tryz.results79, go_sem, k1]) rfl ⟨rfl, ?_, ?_⟩
  · have h1 := grown_then (grown_alloc (grown_alloc (grown_refl w (some b)) _) _) (below_grown HB.out _) (.inl rfl)
    repeat (first | with_reducible exact h1 | refine grown_setNew ?_ (by simp) _)
  · unfold TableAt
    refine BlockAt.setOther (BlockAt.setOther (BlockAt.setOther ?_ (by simp; omega) _) (by simp; omega) _) (by simp; omega) _
    exact ((BlockAt.alloc H.out _).alloc _).below HB.out (by simp; omega)

/-- What stands, on the way through Do, behind the copy of the table. -/
structure DoAt (w W : World) (b y : Nat) (tb t2 : Tbl) (o : Ord) : Prop where
  x0 : BlockAt W w.heap.size 84 [.int .i64 o.kind, .int .i64 o.now, .int .i64 o.job, .int .i64 o.tr, .int .i64 o.wk, .int .i64 o.tm]
  x1 : BlockAt W (w.heap.size + 1) 88 [.int .i64 0, .int .i64 0, .int .i64 0]
  x6 : BlockAt W y 146 (tcells tb)
  l6 : w.heap.size + 1 < y
  t : TableAt W b t2
  lt : b < w.heap.size
  g : w.grownBy W (some b)
theorem DoAt.step {w W W' : World} {b y : Nat} {tb t2 t3 : Tbl} {o : Ord} (h : DoAt w W b y tb t2 o) (hg : W.grownBy W' (some b)) (ht : TableAt W' b t3) : DoAt w W' b y tb t3 o :=
  have hlt := h.lt
  have l6 := h.l6
  ⟨h.x0.other hg (by simp; omega), h.x1.other hg (by simp; omega), h.x6.other hg (by simp; omega), h.l6, ht, h.lt, grown_then h.g hg (.inl rfl)⟩

set_option maxHeartbeats 2000000 in
theorem do_yes (b : Nat) (tb : Tbl) (c n j t k m : Int) (w : World) (h : TableAt w b tb) (hok : tb.Ok) (ho : chk ⟨c, n, j, t, k, m⟩ = 0) :
    Calls Tryz.prog 79 #[.pointer (some ⟨b, 0, none⟩), .agg #[.int .i64 c, .int .i64 n, .int .i64 j, .int .i64 t, .int .i64 k, .int .i64 m]] w (AnsPost w b (tb.did ⟨c, n, j, t, k, m⟩)) := by
  rw [did_yes ho]
  have hpk := pass_ok hok (chk_now ho).2
  generalize hX : (tb.pass n).act ⟨c, n, j, t, k, m⟩ = X at *
  obtain ⟨Z, hZ⟩ : ∃ Z, (if X.2.code ≠ 0 then (tb, X.2) else X) = Z := ⟨_, rfl⟩
  rw [hZ]
  have HZ := Lib.hid hZ; clear hZ
  have HC := Lib.hid ho
  have HP := Lib.hid hpk; clear hpk
  have HYtfihmpkkpgmdhaaGreatDoor := Lib.hid hX; clear hX
  have hlt := h.lt
  have H := Lib.hid h; clear h
  clear ho hok
  go_enter Tryz.func79, Tryz.ntmps79
  go_wp2_with fail
  refine (check_any c n j t k m _).mono ?_
  rw [HC.out]
  rintro e w1 ⟨rfl, hb1⟩
  have x0 := (BlockAt.alloc (BlockAt.new w 84 [.int .i64 c, .int .i64 n, .int .i64 j, .int .i64 t, .int .i64 k, .int .i64 m]) (.cells #[.int .i64 0, .int .i64 0, .int .i64 0] 88)).below hb1 (by simp <;> omega)
  have x1 := (BlockAt.new (w.alloc (.cells #[.int .i64 c, .int .i64 n, .int .i64 j, .int .i64 t, .int .i64 k, .int .i64 m] 84)) 88 [.int .i64 0, .int .i64 0, .int .i64 0]).below hb1 (by simp)
  simp only [World.size_alloc] at x1
  have xt := ((BlockAt.alloc H.out _).alloc _).below hb1 (by simp; omega)
  have g1 := grown_below (grown_alloc (grown_alloc (grown_refl w (some b)) _) _) hb1
  have hs1 := g1.size
  have l1 := x1.lt
  clear hb1
  have X0 := Lib.hid x0; have X1 := Lib.hid x1; have XT := Lib.hid xt; have G1 := Lib.hid g1; clear x0 x1 xt g1
  go_wp2_with (first | (refine wpList_load_whole rfl 146 _ rfl b rfl (tcells tb) XT.out Tryz.underlying146 rfl (by kernel_rfl) ?_) | (refine wpList_store_whole rfl 146 _ _ rfl w1.heap.size (tcells tb) rfl rfl (BlockAt.new w1 146 (tcells Tbl.zero)) (by simp [tcells_len]) (by kernel_rfl) (tcells_ones tb) ?_; intro w2 x6 g2 z2; have D : DoAt w w2 b w1.heap.size tb tb ⟨c, n, j, t, k, m⟩ := ⟨(BlockAt.alloc X0.out _).other g2 (by simp; omega), (BlockAt.alloc X1.out _).other g2 (by simp; omega), x6, by omega, (BlockAt.alloc XT.out _).other g2 (by simp; omega), hlt, grown_far (grown_alloc G1.out _) g2 (by omega)⟩; have k0 := D.x0.cells; have HD := Lib.hid D; clear D x6 g2 z2))
  refine (pass_any b tb _ _ HD.out.t).mono ?_
  rintro e w3 ⟨rfl, g3, t3⟩
  have D := HD.out.step g3 t3
  clear k0 g3 t3 HD
  have k0 := D.x0.cells
  have HD := Lib.hid D; clear D
  go_wp2_with fail
  refine (act_any b (tb.pass n) ⟨c, n, j, t, k, m⟩ _ HD.out.t HP.out HC.out).mono ?_
  rw [HYtfihmpkkpgmdhaaGreatDoor.out]
  rintro e w4 ⟨rfl, g4, t4⟩
  have D := HD.out.step g4 t4
  clear k0 g4 t4 HD
  have hs4 := D.g.size
  have k1 := D.x1.cells
  have f1 := D.x1.frees
  have l1 := D.x1.lt
  have lx := D.x6.lt
  have HD := Lib.hid D; clear D
  by_cases hx : X.2.code = 0
  · have hx1 : (X.2.code != 0) = false := by simpa using hx
    have e : Z = X := by rw [← HZ.out]; simp [hx]
    subst e
    clear hx
    go_wp2
    refine bodyPost_ret (v := .agg #[.int .i64 Z.2.code, .int .i64 Z.2.job, .int .i64 Z.2.tr]) (by simp [results, Tryz.results79, go_sem, k1, l1]) rfl ⟨rfl, ?_, ?_⟩
    · repeat (first | with_reducible exact HD.out.g | with_reducible refine grown_alloc ?_ _ | refine grown_setNew ?_ (by simp) _)
    · unfold TableAt
      repeat (first | with_reducible exact HD.out.t | with_reducible refine BlockAt.alloc ?_ _ | refine BlockAt.setOther ?_ (by simp; omega) _)
      exact HD.out.t
  · have hx1 : (X.2.code != 0) = true := by simpa using hx
    have e : Z = (tb, X.2) := by rw [← HZ.out]; simp [hx]
    subst e
    clear hx
    go_wp2_with (first | (refine wpList_load_whole rfl 146 _ rfl w1.heap.size rfl (tcells tb) (BlockAt.alloc HD.out.x6 _) Tryz.underlying146 rfl (by kernel_rfl) ?_) | (refine wpList_store_whole rfl 146 _ _ rfl b (tcells tb) rfl rfl (BlockAt.alloc HD.out.t _) (by simp [tcells_len]) (by kernel_rfl) (tcells_ones tb) ?_; intro w5 t5 g5 z5; have k1 := (BlockAt.other (BlockAt.alloc HD.out.x1 _) g5 (by simp; omega)).cells; have f1 := (BlockAt.other (BlockAt.alloc HD.out.x1 _) g5 (by simp; omega)).frees; have k7 := (BlockAt.other (BlockAt.new w4 88 [.int .i64 X.2.code, .int .i64 X.2.job, .int .i64 X.2.tr]) g5 (by simp; omega)).cells; have G5 := Lib.hid (grown_then (grown_alloc HD.out.g _) g5 (.inl rfl)); have T5 := Lib.hid t5; simp only [World.size_alloc] at z5; clear g5 t5))
    refine bodyPost_ret (v := .agg #[.int .i64 X.2.code, .int .i64 X.2.job, .int .i64 X.2.tr]) (by simp [results, Tryz.results79, go_sem, k1]) rfl ⟨rfl, ?_, ?_⟩
    · repeat (first | with_reducible exact G5.out | with_reducible refine grown_alloc ?_ _ | refine grown_setNew ?_ (by simp) _)
    · unfold TableAt
      repeat (first | with_reducible exact T5.out | with_reducible refine BlockAt.alloc ?_ _ | refine BlockAt.setOther ?_ (by simp; omega) _)

/-- Do: what it answers, and the table behind it. -/
theorem do_any (b : Nat) (tb : Tbl) (c n j t k m : Int) (w : World) (h : TableAt w b tb) (hok : tb.Ok) :
    Calls Tryz.prog 79 #[.pointer (some ⟨b, 0, none⟩), .agg #[.int .i64 c, .int .i64 n, .int .i64 j, .int .i64 t, .int .i64 k, .int .i64 m]] w (AnsPost w b (tb.did ⟨c, n, j, t, k, m⟩)) := by
  by_cases ho : chk ⟨c, n, j, t, k, m⟩ = 0
  · exact do_yes b tb c n j t k m w h hok ho
  · exact do_no b tb c n j t k m w h ho

end Go.Proofs.YtfihmpkkpgmdhaaGreatDoor

/-
  The document's board, walked: later, Job.
-/
namespace Go.Proofs.YtfihmpkkpgmdhaaGreatDoor
set_option linter.unusedSimpArgs false
set_option linter.unusedVariables false
open Go.RowKit

/-- A block that reads as a table. -/
def tb (b : Nat) (ty : TypeId) (t : Tbl) : HP := bl b ty (tcells t)
theorem Holds.setJob {w : World} {b : Nat} {ty : TypeId} {t : Tbl} {A : HP} (h : Holds w (tb b ty t * A)) {k : Nat} (hk : k < 6) (j : Job) :
    Holds ((((w.setCell ⟨b, k * 4, none⟩ (.int .i64 j.st)).setCell ⟨b, k * 4 + 1, none⟩ (.int .i64 j.wk)).setCell ⟨b, k * 4 + 2, none⟩ (.int .i64 j.tr)).setCell ⟨b, k * 4 + 3, none⟩ (.int .i64 j.un)) (tb b ty (t.set k j) * A) := by
  unfold tb
  rw [← tcells_set t k hk j, Nat.mul_comm k 4]
  exact (((h.setB _ _).setB _ _).setB _ _).setB _ _
theorem tcells_st (t : Tbl) (i : Nat) (hi : i < 6) (j : Job) (s : Int) : (tcells (t.set i j)).set (4 * i) (.int .i64 s) = tcells (t.set i { j with st := s }) := by
  match i, hi with
  | 0, _ | 1, _ | 2, _ | 3, _ | 4, _ | 5, _ => rfl
theorem Holds.setStN {w : World} {b : Nat} {ty : TypeId} {t : Tbl} {A : HP} {k : Nat} {j : Job} (h : Holds w (tb b ty (t.set k j) * A)) (hk : k < 6) (s : Int) :
    Holds (w.setCell ⟨b, k * 4, none⟩ (.int .i64 s)) (tb b ty (t.set k { j with st := s }) * A) := by
  unfold tb
  rw [← tcells_st t k hk j s, Nat.mul_comm k 4]
  exact h.setB _ _
theorem Holds.setUnN {w : World} {b : Nat} {ty : TypeId} {t : Tbl} {A : HP} {k : Nat} (h : Holds w (tb b ty t * A)) (hk : k < 6) (u : Int) :
    Holds (w.setCell ⟨b, k * 4 + 3, none⟩ (.int .i64 u)) (tb b ty (t.set k { t.jobs k with un := u }) * A) := by
  unfold tb
  rw [← tcells_setUn t k hk u, Nat.mul_comm k 4]
  exact h.setB _ _
theorem Holds.setNowN {w : World} {b : Nat} {ty : TypeId} {t : Tbl} {A : HP} (h : Holds w (tb b ty t * A)) (n : Int) :
    Holds (w.setCell ⟨b, 24, none⟩ (.int .i64 n)) (tb b ty ⟨t.jobs, n⟩ * A) := by
  unfold tb
  rw [← tcells_setNow t n]
  exact h.setB _ _
theorem Holds.tb {w : World} {b : Nat} {ty : TypeId} {t : Tbl} {A : HP} (h : Holds w (tb b ty t * A)) : BlockAt w b ty (tcells t) := h.bl
/-- The four cells of job k. -/
theorem BlockAt.job {w : World} {b : Nat} {ty : TypeId} {t : Tbl} (h : BlockAt w b ty (tcells t)) {k : Nat} (hk : k < 6) :
    w.cell? ⟨b, k * 4, none⟩ = some (.int .i64 (t.jobs k).st) ∧ w.cell? ⟨b, k * 4 + 1, none⟩ = some (.int .i64 (t.jobs k).wk) ∧
    w.cell? ⟨b, k * 4 + 2, none⟩ = some (.int .i64 (t.jobs k).tr) ∧ w.cell? ⟨b, k * 4 + 3, none⟩ = some (.int .i64 (t.jobs k).un) := by
  rw [Nat.mul_comm]
  obtain ⟨a, b, c, d⟩ := tcells_job t k hk
  exact ⟨h.cell _ _ a, h.cell _ _ b, h.cell _ _ c, h.cell _ _ d⟩
theorem Holds.congrT {w : World} {b : Nat} {ty : TypeId} {t u : Tbl} {A : HP} (h : Holds w (Go.Proofs.YtfihmpkkpgmdhaaGreatDoor.tb b ty t * A)) (hj : ∀ i, i < 6 → t.jobs i = u.jobs i) (hn : t.now = u.now) : Holds w (Go.Proofs.YtfihmpkkpgmdhaaGreatDoor.tb b ty u * A) := by
  unfold Go.Proofs.YtfihmpkkpgmdhaaGreatDoor.tb at *
  rwa [← tcells_congr hj hn]
theorem Holds.passSet {w : World} {b : Nat} {ty : TypeId} {t : Tbl} {m : Int} {k : Nat} {A : HP} (h : Holds w (Go.Proofs.YtfihmpkkpgmdhaaGreatDoor.tb b ty ((passTo t m k).set k (expire m (t.jobs k))) * A)) : Holds w (Go.Proofs.YtfihmpkkpgmdhaaGreatDoor.tb b ty (passTo t m (k + 1)) * A) := by
  refine h.congrT (fun i _ => ?_) rfl
  simp only [passTo, Tbl.set]
  by_cases h1 : i < k
  · simp [h1, Nat.lt_succ_of_lt h1, show ¬ i = k by omega]
  · by_cases h2 : i = k
    · subst h2; simp
    · simp [h1, h2, show ¬ i < k + 1 by omega]
theorem Holds.passKeep {w : World} {b : Nat} {ty : TypeId} {t : Tbl} {m : Int} {k : Nat} {A : HP} (h : Holds w (Go.Proofs.YtfihmpkkpgmdhaaGreatDoor.tb b ty (passTo t m k) * A)) (he : expire m (t.jobs k) = t.jobs k) : Holds w (Go.Proofs.YtfihmpkkpgmdhaaGreatDoor.tb b ty (passTo t m (k + 1)) * A) := by
  refine h.congrT (fun i _ => ?_) rfl
  simp only [passTo]
  by_cases h1 : i < k
  · simp [h1, Nat.lt_succ_of_lt h1]
  · by_cases h2 : i = k
    · subst h2; simp [he]
    · simp [h1, show ¬ i < k + 1 by omega]
theorem Holds.passEnd {w : World} {b : Nat} {ty : TypeId} {t : Tbl} {n : Int} {A : HP} (h : Holds w (Go.Proofs.YtfihmpkkpgmdhaaGreatDoor.tb b ty (passTo t (max t.now n) 6) * A)) : Holds w (Go.Proofs.YtfihmpkkpgmdhaaGreatDoor.tb b ty (t.pass n) * A) := by
  refine h.congrT (fun i hi => ?_) rfl
  simp [passTo, Tbl.pass, hi]
theorem Holds.passStart {w : World} {b : Nat} {ty : TypeId} {t : Tbl} {A : HP} (h : Holds w (Go.Proofs.YtfihmpkkpgmdhaaGreatDoor.tb b ty t * A)) : Holds w (Go.Proofs.YtfihmpkkpgmdhaaGreatDoor.tb b ty (passTo t t.now 0) * A) :=
  h.congrT (fun i _ => by simp [passTo]) rfl

theorem results_cell1 {P : Program} {fn : Func} {tmps : Array Value} {w : World} {a : Nat} {t : TypeId} {ad : Addr} {v : Value} (hr : fn.results = #[.cell a t]) (ha : tmps.getD a undef = .pointer (some ad)) (hl : (loadVar t ad).run P w = .ok v w) : (results fn tmps).run P w = .ok v w := by
  have h1 : (asAddr (.pointer (some ad))).run P w = .ok ad w := rfl
  have ha' : tmps[a]?.getD undef = .pointer (some ad) := by simpa using ha
  unfold results
  rw [hr]
  simp [Sem.run_bind, ha', h1, hl]
theorem results_cell2 {P : Program} {fn : Func} {tmps : Array Value} {w : World} {a b : Nat} {t u : TypeId} {ad bd : Addr} {v x : Value} (hr : fn.results = #[.cell a t, .cell b u]) (ha : tmps.getD a undef = .pointer (some ad)) (hb : tmps.getD b undef = .pointer (some bd)) (hl : (loadVar t ad).run P w = .ok v w) (hk : (loadVar u bd).run P w = .ok x w) : (results fn tmps).run P w = .ok (.tuple #[v, x]) w := by
  have h1 : (asAddr (.pointer (some ad))).run P w = .ok ad w := rfl
  have h2 : (asAddr (.pointer (some bd))).run P w = .ok bd w := rfl
  have ha' : tmps[a]?.getD undef = .pointer (some ad) := by simpa using ha
  have hb' : tmps[b]?.getD undef = .pointer (some bd) := by simpa using hb
  unfold results
  rw [hr]
  simp [Sem.run_bind, ha', hb', h1, h2, hl, hk]
set_option maxRecDepth 100000 in
set_option maxHeartbeats 4000000 in
theorem later_any (t : Tbl) (n : Int) (w : World) :
    Calls Tryz.prog 117 #[.agg (tcells t).toArray, .int .i64 n] w fun e w' => e = .returned (.agg (tcells (t.pass n)).toArray) ∧ Below w.heap.size w w' := by
  have h1 := fun T : Tbl => (((Holds.old (w := w)).boxB (ty := 96) (cs := tcells T) rfl).boxB (ty := 96) (cs := tcells Tbl.zero) (g := w.heap.size + 1) (by simp)).two
  have H1 := Lib.hid h1; clear h1
  have q1 := fun T : Tbl => ((Quiet.refl w).alloc (.cells (tcells T).toArray 96)).alloc (.cells (tcells Tbl.zero).toArray 96)
  have Q1 := Lib.hid q1; clear q1
  have h24 : (tcells t)[24]? = some (.int .i64 t.now) := rfl
  obtain ⟨m, hm, hcase⟩ : ∃ m, Hid (m = max t.now n) ∧ (t.now < n ∧ n = m ∨ n ≤ t.now ∧ t.now = m) := ⟨_, rfl, by omega⟩
  rcases hcase with ⟨hlt0, hmm⟩ | ⟨hlt0, hmm⟩
  all_goals
    have HMM := Lib.hid hmm; clear hmm
    go_enter Tryz.func117, Tryz.ntmps117
    go_wp2
    go_loopw [5, 6] (fun i _ wr => ∃ k : Nat, k ≤ 6 ∧ i = .int .i64 k ∧ Holds wr (tb w.heap.size 96 (passTo t (max t.now n) k) * (bl (w.heap.size + 1) 96 (tcells Tbl.zero) * old w)) ∧ Quiet w wr) (fun i _ _ => 6 - (intOf i).toNat)
    case atStart =>
      first
      | exact ⟨0, by omega, rfl, by have := H1.out ⟨t.jobs, n⟩; exact Holds.congrT this (fun i _ => by simp [passTo]) (by have := hm.out; have := HMM.out; simp only [passTo]; omega), Q1.out ⟨t.jobs, n⟩⟩
      | exact ⟨0, by omega, rfl, by have := H1.out t; exact Holds.congrT this (fun i _ => by simp [passTo]) (by have := hm.out; have := HMM.out; simp only [passTo]; omega), Q1.out t⟩
    case round =>
      clear hlt0
      obtain ⟨k, hk, rfl, hh, hq⟩ := hrel
      rw [← hm.out] at hh
      by_cases hlt : k < 6
      · obtain ⟨c0, c1, c2, c3⟩ := hh.tb.job hlt
        have c24 := hh.tb.cell 24 _ rfl
        simp only [passTo, Nat.lt_irrefl, if_false] at c0 c1 c2 c3 c24
        have hf := hh.tb.frees
        have l0 := hh.tb.lt
        have HH := Lib.hid hh; have HQ := Lib.hid hq; clear hh hq
        by_cases hs : (t.jobs k).st = 2
        · have hs1 : ((t.jobs k).st == 2) = true := by simpa using hs
          have HS := Lib.hid hs; clear hs
          by_cases hu : (t.jobs k).un ≤ m
          · by_cases h3 : 3 ≤ (t.jobs k).tr
            · go_wp2
              go_roundw
              case rel => exact ⟨k + 1, by omega, by go_num, by rw [← hm.out]; refine Holds.passSet ?_; rw [expire, if_pos ⟨HS.out, hu⟩, if_pos h3]; exact ((HH.out.setJob hlt ⟨1, 0, (t.jobs k).tr, 0⟩).setStN hlt 4).alloc _, ((((((HQ.out).setCell _ _).setCell _ _).setCell _ _).setCell _ _).setCell _ _).alloc _⟩
              case measure => simp [intOf]; omega
            · go_wp2
              go_roundw
              case rel => exact ⟨k + 1, by omega, by go_num, by rw [← hm.out]; refine Holds.passSet ?_; rw [expire, if_pos ⟨HS.out, hu⟩, if_neg (by omega)]; exact (HH.out.setJob hlt ⟨1, 0, (t.jobs k).tr, 0⟩).alloc _, ((((HQ.out.setCell _ _).setCell _ _).setCell _ _).setCell _ _).alloc _⟩
              case measure => simp [intOf]; omega
          · go_wp2
            go_roundw
            case rel => exact ⟨k + 1, by omega, by go_num, by rw [← hm.out]; exact (HH.out.alloc _).passKeep (by rw [expire, if_neg (fun h => absurd h.2 (by omega))]), HQ.out.alloc _⟩
            case measure => simp [intOf]; omega
        · have hs1 : ((t.jobs k).st == 2) = false := by simpa using hs
          have HS := Lib.hid hs; clear hs
          go_wp2
          go_roundw
          case rel => exact ⟨k + 1, by omega, by go_num, by rw [← hm.out]; exact (HH.out.alloc _).passKeep (by rw [expire, if_neg (fun h => HS.out h.1)]), HQ.out.alloc _⟩
          case measure => simp [intOf]; omega
      · obtain rfl : k = 6 := by omega
        rw [hm.out] at hh
        have h6 := hh.passEnd
        have HH := Lib.hid h6; have HQ := Lib.hid hq; clear hh hq h6
        go_wp2_with (first | (refine wpList_load_whole rfl 96 _ rfl w.heap.size rfl (tcells (t.pass n)) HH.out.bl Tryz.underlying96 rfl (by kernel_rfl) ?_) | (refine wpList_store_whole rfl 96 _ _ rfl (w.heap.size + 1) (tcells (t.pass n)) rfl rfl HH.out.two.bl (by simp [tcells_len]) (by kernel_rfl) (tcells_ones (t.pass n)) ?_; intro w' h1' h2' h3'; have H2 := Lib.hid (HH.out.two.grown h2' h1'); have Q2 := Lib.hid (Quiet.grown h2'); have k1 := h1'.cells; clear h1' h2' h3'))
        have hl := run_load_part (P := Tryz.prog) (off := 0) (ty := 96) (vs := tcells (t.pass n)) (H2.out.bl) (by simp) Tryz.underlying96 rfl (by kernel_rfl)
        exact bodyPost_ret (results_cell1 rfl rfl hl) rfl ⟨rfl, H2.out.right.right.toBelow' (HQ.out.trans Q2.out)⟩
end Go.Proofs.YtfihmpkkpgmdhaaGreatDoor

/-
  Tables of jobs: contracts beside whatever else stands in memory; the orders that come in.
-/
namespace Go.Proofs.YtfihmpkkpgmdhaaGreatDoor
set_option linter.unusedSimpArgs false
set_option linter.unusedVariables false
open Go.RowKit
/-- A table of the program's. -/
def tab (b : Nat) (t : Tbl) : HP := tb b 146 t
theorem Holds.tab {w : World} {b : Nat} {t : Tbl} {A : HP} (h : Holds w (tab b t * A)) : TableAt w b t := h.bl
theorem do_sl (b : Nat) (t : Tbl) (c n j r k m : Int) (w : World) {R : HP} (h : Holds w (tab b t * R)) (hok : t.Ok) :
    Calls Tryz.prog 79 #[.pointer (some ⟨b, 0, none⟩), .agg #[.int .i64 c, .int .i64 n, .int .i64 j, .int .i64 r, .int .i64 k, .int .i64 m]] w
      (Post w R (.agg #[.int .i64 (t.did ⟨c, n, j, r, k, m⟩).2.code, .int .i64 (t.did ⟨c, n, j, r, k, m⟩).2.job, .int .i64 (t.did ⟨c, n, j, r, k, m⟩).2.tr]) (tab b (t.did ⟨c, n, j, r, k, m⟩).1)) :=
  (do_any b t c n j r k m w h.tab hok).mono fun e w' ⟨he, hg, ht⟩ => ⟨he, Quiet.grown hg, Holds.grown h hg ht⟩
theorem new_sl (w : World) {R : HP} (h : Holds w R) : Calls Tryz.prog 77 #[] w (PostX w R (fun b : Nat => .pointer (some ⟨b, 0, none⟩)) fun b => tab b Tbl.zero) :=
  (new_any w).mono fun e w' ⟨b, he, hl, hb, ht⟩ => ⟨b, he, Quiet.below hb, h.newB hb ht hl⟩
theorem own_sl (b : Nat) (t : Tbl) (w : World) {R : HP} (h : Holds w (tab b t * R)) : Calls Tryz.prog 135 #[.pointer (some ⟨b, 0, none⟩)] w (PostX w (tab b t * R) (fun b : Nat => .pointer (some ⟨b, 0, none⟩)) fun b' => tab b' t) :=
  (own_any b t w h.tab).mono fun e w' ⟨b', he, hl, hb, ht⟩ => ⟨b', he, Quiet.below hb, h.newB hb ht hl⟩
theorem job_sl (b : Nat) (t : Tbl) (n : Int) (w : World) {R : HP} (h : Holds w (tab b t * R)) : Calls Tryz.prog 49 #[.pointer (some ⟨b, 0, none⟩), .int .i64 n] w fun e w' => e = .returned (t.job n).val ∧ Below w.heap.size w w' := job_any b t n w h.tab

def acells (a : Ans) : List Value := [.int .i64 a.code, .int .i64 a.job, .int .i64 a.tr]
/-- The cells of orders. -/
def ovs (l : List Ord) : List Value := l.flatMap ocells
theorem ocells_length (o : Ord) : (ocells o).length = 6 := rfl
theorem ovs_get (l : List Ord) : ∀ (i j : Nat), j < 6 → (ovs l)[i * 6 + j]? = (l[i]?).bind fun r => (ocells r)[j]? := by
  induction l with
  | nil => intro i j _; simp [ovs]
  | cons r l ih =>
    intro i j hj
    have e : ovs (r :: l) = ocells r ++ ovs l := by simp [ovs]
    rw [e]
    cases i with
    | zero => rw [List.getElem?_append_left (by rw [ocells_length]; omega)]; simp
    | succ i =>
      rw [List.getElem?_append_right (by rw [ocells_length]; omega), ocells_length, show (i + 1) * 6 + j - 6 = i * 6 + j by omega, ih i j hj]
      simp
theorem ovs_cell {w : World} {g off : Nat} {l : List Ord} (h : ∀ j u, (ovs l)[j]? = some u → w.cell? ⟨g, off + j, none⟩ = some u) {i : Nat} {r : Ord} (hi : l[i]? = some r) (j : Nat) (u : Value) (hj : j < 6) (hu : (ocells r)[j]? = some u) : w.cell? ⟨g, off + i * 6 + j, none⟩ = some u := by
  rw [Nat.add_assoc]
  refine h _ _ ?_
  rw [ovs_get l i j hj, hi]
  exact hu
/-- An order that came in, in any world where all that there was stands. -/
theorem ord_cells {w : World} {g off n c : Nat} {l : List Ord} (h : RowAt w (.slice (some ⟨g, off, none⟩) n c) l.length (ovs l)) {i : Nat} {o : Ord} (hi : l[i]? = some o) {W : World} {A : HP} (hW : Holds W (A * old w)) :
    W.cell? ⟨g, off + i * 6, none⟩ = some (.int .i64 o.kind) ∧ W.cell? ⟨g, off + i * 6 + 1, none⟩ = some (.int .i64 o.now) ∧ W.cell? ⟨g, off + i * 6 + 2, none⟩ = some (.int .i64 o.job) ∧ W.cell? ⟨g, off + i * 6 + 3, none⟩ = some (.int .i64 o.tr) ∧ W.cell? ⟨g, off + i * 6 + 4, none⟩ = some (.int .i64 o.wk) ∧ W.cell? ⟨g, off + i * 6 + 5, none⟩ = some (.int .i64 o.tm) := by
  have hl : l.length ≠ 0 := by
    intro e
    have := (List.getElem?_eq_some_iff.1 hi).1
    omega
  obtain ⟨g', off', c', e, _, _, hc⟩ := (h.old hW).get hl
  simp only [Value.slice.injEq, Option.some.injEq, Addr.mk.injEq, and_true] at e
  obtain ⟨⟨rfl, rfl⟩, _, rfl⟩ := e
  exact ⟨ovs_cell hc hi 0 _ (by omega) rfl, ovs_cell hc hi 1 _ (by omega) rfl, ovs_cell hc hi 2 _ (by omega) rfl, ovs_cell hc hi 3 _ (by omega) rfl, ovs_cell hc hi 4 _ (by omega) rfl, ovs_cell hc hi 5 _ (by omega) rfl⟩
end Go.Proofs.YtfihmpkkpgmdhaaGreatDoor

/-
  A disk of the program's, beside whatever else stands in memory.
-/
namespace Go.Proofs.YtfihmpkkpgmdhaaGreatDoor
set_option linter.unusedSimpArgs false
set_option linter.unusedVariables false
open Go.RowKit
def dsk (b : Nat) (d : Dsk) : HP where
  on F w := DiskAt w b d F
  lt := fun h k hk => h.inW k hk
  keep := by
    rintro F w w' ⟨v, hb, hv, rfl⟩ hk
    refine ⟨v, by unfold BlockAt at *; rw [hk b (.inl rfl)]; exact hb, ?_, rfl⟩
    exact ((ownb v d.b).keep (F := fun k => v.ownBlock = some k) ⟨hv, rfl⟩ fun k h => hk k (.inr h)).1
theorem dnew_sl (w : World) {R : HP} (h : Holds w R) : Calls Tryz.prog 19 #[] w (PostX w R (fun b : Nat => .pointer (some ⟨b, 0, none⟩)) fun b => dsk b Dsk.zero) :=
  (dnew_any w).mono fun e w' ⟨b, F, he, hb, hd, hl⟩ => ⟨b, he, Quiet.below hb, h.new hb.block hd hl⟩
theorem depoch_sl (b : Nat) (d : Dsk) (w : World) {R : HP} (h : Holds w (dsk b d * R)) : Calls Tryz.prog 51 #[.pointer (some ⟨b, 0, none⟩)] w fun e w' => e = .returned (.int .i64 d.ep) ∧ w = w' := by
  obtain ⟨F, hF⟩ := h.left
  exact epoch_any b d F w hF
theorem Holds.diskPost {w w' : World} {b : Nat} {d d' : Dsk} {R : HP} {v : Value} {e : Ending} {F : Nat → Prop} (hn : ∀ (w' : World) (F' : Nat → Prop) (B : HP), B.on F' w' → Upd F w w' → From w F F' → Holds w' (B * R)) (hp : DiskPost w b F d' v e w') : Post w R v (dsk b d') e w' := by
  obtain ⟨F', he, h1, h2, h3⟩ := hp
  exact ⟨he, Quiet.upd h2, hn _ _ (dsk b d') h1 h2 h3⟩
theorem raise_sl (b : Nat) (d : Dsk) (w : World) {R : HP} (h : Holds w (dsk b d * R)) (hok : d.Ok) :
    Calls Tryz.prog 121 #[.pointer (some ⟨b, 0, none⟩)] w (Post w R (.tuple #[.int .i64 d.raise.2.1, .int .i64 d.raise.2.2]) (dsk b d.raise.1)) := by
  obtain ⟨F, hF, hn⟩ := h.open
  exact (raise_any b d F w hF hok).mono fun e w' hp => Holds.diskPost (d := d) hn hp
theorem append_sl (b : Nat) (d : Dsk) (x : Int) (y : Value) (m : List UInt8) (w : World) {R : HP} (h : Holds w (dsk b d * R)) (hok : d.Ok) (hy : BytesAt w y m) (hm : m.length ≤ 100000) :
    Calls Tryz.prog 137 #[.pointer (some ⟨b, 0, none⟩), .int .i64 x, y] w (Post w R (.int .i64 (d.append x m).2) (dsk b (d.append x m).1)) := by
  obtain ⟨F, hF, hn⟩ := h.open
  exact (append_any b d F x y m w hF hok hy hm).mono fun e w' hp => Holds.diskPost (d := d) hn hp
theorem cut_sl (b : Nat) (d : Dsk) (x n : Int) (w : World) {R : HP} (h : Holds w (dsk b d * R)) (hok : d.Ok) :
    Calls Tryz.prog 122 #[.pointer (some ⟨b, 0, none⟩), .int .i64 x, .int .i64 n] w (Post w R (.int .i64 (d.cut x n).2) (dsk b (d.cut x n).1)) := by
  obtain ⟨F, hF, hn⟩ := h.open
  exact (cut_any b d F x n w hF hok).mono fun e w' hp => Holds.diskPost (d := d) hn hp
theorem bytes_sl (b : Nat) (d : Dsk) (w : World) {R : HP} (h : Holds w (dsk b d * R)) (hok : d.Ok) :
    Calls Tryz.prog 52 #[.pointer (some ⟨b, 0, none⟩)] w (PostX w (dsk b d * R) (fun v => v) fun v => ownb v d.b) := by
  obtain ⟨F, hF⟩ := h.left
  exact (bytes_any b d F w hF hok).mono fun e w' ⟨v, he, ho, hb, hl⟩ => ⟨v, he, Quiet.below hb, h.newO hb ho hl⟩

/-- A node of the program's, with its table at bt. -/
def nblk (bn bt bd : Nat) (n : Nod) : HP := bl bn 119 [.pointer (some ⟨bt, 0, none⟩), .pointer (some ⟨bd, 0, none⟩), .int .i64 n.ep, .bool n.down]
def nod (bn bd : Nat) (n : Nod) : HP := HP.ex fun bt : Nat => nblk bn bt bd n * tab bt n.t
theorem HP.ex_mul {α : Type} {A : α → HP} {B : HP} {w : World} (h : Holds w (HP.ex A * B)) : ∃ x, Holds w (A x * B) := by
  obtain ⟨F, F1, F2, hd, hF, ⟨x, ha⟩, hb⟩ := h
  exact ⟨x, F, F1, F2, hd, hF, ha, hb⟩
theorem HP.mul_ex {α : Type} {A : α → HP} {B : HP} {w : World} {x : α} (h : Holds w (A x * B)) : Holds w (HP.ex A * B) := by
  obtain ⟨F, F1, F2, hd, hF, ha, hb⟩ := h
  exact ⟨F, F1, F2, hd, hF, ⟨x, ha⟩, hb⟩
theorem nod_open {w : World} {bn bd : Nat} {n : Nod} {R : HP} (h : Holds w (nod bn bd n * R)) : ∃ bt : Nat, Holds w (nblk bn bt bd n * (tab bt n.t * R)) := by
  obtain ⟨bt, h⟩ := HP.ex_mul h
  exact ⟨bt, h.eq (HP.assoc _ _ _)⟩
theorem nod_close {w : World} {bn bt bd : Nat} {n : Nod} {R : HP} (h : Holds w (nblk bn bt bd n * (tab bt n.t * R))) : Holds w (nod bn bd n * R) :=
  HP.mul_ex (A := fun bt : Nat => nblk bn bt bd n * tab bt n.t) (x := bt) (h.eq (HP.assoc _ _ _).symm)
end Go.Proofs.YtfihmpkkpgmdhaaGreatDoor
