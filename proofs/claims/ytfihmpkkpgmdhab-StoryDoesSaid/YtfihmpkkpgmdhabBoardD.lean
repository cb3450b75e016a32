/-
  The document's board, walked: Do.
-/
import Derived.Test.YtfihmpkkpgmdhabBoard9
import Derived.Test.YtfihmpkkpgmdhabBoard3
import Derived.Test.YtfihmpkkpgmdhabLexH2
namespace Go.Proofs.Ytfihmpkkpgmdhab
set_option linter.unusedSimpArgs false
set_option linter.unusedVariables false
open Go.RowKit
set_option maxRecDepth 100000 in
set_option maxHeartbeats 4000000 in
theorem bdo_sl (b : Nat) (t : Tbl) (c n j r k m : Int) (w : World) {R : HP} (h : Holds w (tb b 41 t * R)) (hok : t.Ok) :
    Calls Try.prog 21 #[.pointer (some ⟨b, 0, none⟩), .agg #[.int .i64 c, .int .i64 n, .int .i64 j, .int .i64 r, .int .i64 k, .int .i64 m]] w
      (Post w R (.agg #[.int .i64 (t.did ⟨c, n, j, r, k, m⟩).2.code, .int .i64 (t.did ⟨c, n, j, r, k, m⟩).2.job, .int .i64 (t.did ⟨c, n, j, r, k, m⟩).2.tr]) (tb b 41 (t.did ⟨c, n, j, r, k, m⟩).1)) := by
  obtain ⟨⟨T', ⟨a1, a2, a3⟩⟩, hX⟩ : ∃ X, t.did ⟨c, n, j, r, k, m⟩ = X := ⟨_, rfl⟩
  rw [hX]
  have HX := Lib.hid hX; clear hX
  have hdid := fun W => bdid_any t c n j r k m W hok
  rw [HX.out] at hdid
  have HD := Lib.hid hdid; clear hdid hok
  obtain ⟨w1, hw1, H1, Q1⟩ : ∃ w1, (w.alloc (.cells #[.int .i64 c, .int .i64 n, .int .i64 j, .int .i64 r, .int .i64 k, .int .i64 m] 35)).alloc (.cells #[.int .i64 0, .int .i64 0, .int .i64 0] 32) = w1 ∧ Hid (Holds w1 (bl (w.heap.size + 1) 32 [.int .i64 0, .int .i64 0, .int .i64 0] * (bl w.heap.size 35 [.int .i64 c, .int .i64 n, .int .i64 j, .int .i64 r, .int .i64 k, .int .i64 m] * (tb b 41 t * R)))) ∧ Hid (Quiet w w1) :=
    ⟨_, rfl, Lib.hid ((h.boxB (ty := 35) (cs := [.int .i64 c, .int .i64 n, .int .i64 j, .int .i64 r, .int .i64 k, .int .i64 m]) rfl).boxB (ty := 32) (cs := [.int .i64 0, .int .i64 0, .int .i64 0]) (g := w.heap.size + 1) (by simp)), Lib.hid (((Quiet.refl w).alloc _).alloc _)⟩
  clear h
  obtain ⟨g0, hg0⟩ : ∃ g0, w.heap.size = g0 := ⟨_, rfl⟩
  rw [hg0] at H1
  go_enter Try.func21, Try.ntmps21
  go_wp2_with fail
  clear hw1 hg0
  refine wp_region_lexH (fun W => BlockAt W b 41 (tcells t) ∧ BlockAt W g0 35 [.int .i64 c, .int .i64 n, .int .i64 j, .int .i64 r, .int .i64 k, .int .i64 m]) [4, 10, 11] [8, 9] (fz2 8 41 (tcells Tbl.zero) 9 32 [.int .i64 0, .int .i64 0, .int .i64 0]) _ (by kernel_rfl) (by kernel_rfl) (by kernel_rfl) fz2_fl fz2_no (fz2_ok rfl ⟨rfl, fun a w => by kernel_rfl⟩ rfl ⟨rfl, fun a w => by kernel_rfl⟩) (fun W o h => ⟨h.1.alloc o, h.2.alloc o⟩) ⟨H1.out.drew.three.bl, H1.out.drew.two.bl⟩ H1.out.drew ?_
  repeat (first | (refine LexHL.still (v := ?_) (by rfl) (by rfl) ?_ ?_; rotate_left; (focus (intro W hW; (try dsimp only at hW); go_simp; (try (with_reducible rfl)); done)); (try simp only [Act.put, List.setIfInBounds_toArray, List.set_cons_zero, List.set_cons_succ])))
  refine LexHL.load 41 (.tmp 9) rfl b 0 rfl (tcells t) (fun W h => h.1) (by simp) Try.underlying41 rfl (by kernel_rfl) rfl rfl ?_
  try simp only [Act.put, List.setIfInBounds_toArray, List.set_cons_zero, List.set_cons_succ]
  refine LexHL.load 35 (.tmp 3) rfl g0 0 rfl [.int .i64 c, .int .i64 n, .int .i64 j, .int .i64 r, .int .i64 k, .int .i64 m] (fun W h => h.2) (by simp) Try.underlying35 rfl (by kernel_rfl) rfl rfl ?_
  try simp only [Act.put, List.setIfInBounds_toArray, List.set_cons_zero, List.set_cons_succ]
  refine LexHL.call (f := 55) (args := #[.agg (tcells t).toArray, .agg #[.int .i64 c, .int .i64 n, .int .i64 j, .int .i64 r, .int .i64 k, .int .i64 m]]) rfl rfl (by decide) (fun W _ => by go_simp) ?_
  intro W R1 hS hq hA
  refine (HD.out W).mono ?_
  rintro e w2 ⟨rfl, hb2⟩
  have hA2 := hA.below hb2
  refine ⟨_, rfl, ⟨hS.1.below hb2 hS.1.lt, hS.2.below hb2 hS.2.lt⟩, hq.trans (Quiet.below hb2), _, hA2, ?_⟩
  clear hS hq hA hb2 hA2
  dsimp only
  repeat (first | (refine LexHL.still (v := ?_) (by rfl) (by rfl) ?_ ?_; rotate_left; (focus (intro W hW; (try dsimp only at hW); go_simp; (try (with_reducible rfl)); done)); (try simp only [Act.put, List.setIfInBounds_toArray, List.set_cons_zero, List.set_cons_succ])))
  refine LexHL.made rfl ?_
  intro q1 hlv
  clear hlv
  try simp only [Act.put, List.setIfInBounds_toArray, List.set_cons_zero, List.set_cons_succ]
  refine LexHL.made rfl ?_
  intro q2 hlv
  clear hlv
  try simp only [Act.put, List.setIfInBounds_toArray, List.set_cons_zero, List.set_cons_succ]
  refine LexHL.storeB (q := q1) (t := 41) (cs := tcells Tbl.zero) (B := bl q2 32 [.int .i64 0, .int .i64 0, .int .i64 0] * (bl (g0 + 1) 32 [.int .i64 0, .int .i64 0, .int .i64 0] * (bl g0 35 [.int .i64 c, .int .i64 n, .int .i64 j, .int .i64 r, .int .i64 k, .int .i64 m] * (tb b 41 t * R)))) 41 _ _ rfl (tcells T') rfl rfl (by simp [tcells_len]) (by kernel_rfl) (tcells_ones T') rfl rfl (by decide) (by ac_rfl) (fun W R2 h => ⟨h.left.right.right.right.right.bl, h.left.right.right.right.bl⟩) ?_
  try simp only [Act.put, List.setIfInBounds_toArray, List.set_cons_zero, List.set_cons_succ]
  refine LexHL.storeB (q := q2) (t := 32) (cs := [.int .i64 0, .int .i64 0, .int .i64 0]) (B := bl q1 41 (tcells T') * (bl (g0 + 1) 32 [.int .i64 0, .int .i64 0, .int .i64 0] * (bl g0 35 [.int .i64 c, .int .i64 n, .int .i64 j, .int .i64 r, .int .i64 k, .int .i64 m] * (tb b 41 t * R)))) 32 _ _ rfl [.int .i64 a1, .int .i64 a2, .int .i64 a3] rfl rfl rfl (by kernel_rfl) (by simp [Ones, Value.oneCell']) rfl rfl (by decide) (by ac_rfl) (fun W R2 h => ⟨h.left.right.right.right.right.bl, h.left.right.right.right.bl⟩) ?_
  try simp only [Act.put, List.setIfInBounds_toArray, List.set_cons_zero, List.set_cons_succ]
  refine LexHL.done ?_
  intro W hS hA hq
  have HA := Lib.hid hA; have HQ := Lib.hid (Q1.out.drew.trans hq)
  clear hS hA hq
  have HB := Lib.hid ((HA.out.eq (by ac_rfl : _ = (bl q1 41 (tcells T') * bl g0 35 [.int .i64 c, .int .i64 n, .int .i64 j, .int .i64 r, .int .i64 k, .int .i64 m]) * (tb b 41 t * (bl q2 32 [.int .i64 a1, .int .i64 a2, .int .i64 a3] * (bl (g0 + 1) 32 [.int .i64 0, .int .i64 0, .int .i64 0] * R))))).right)
  go_wp2_with (first | (refine wpList_load_whole rfl 41 _ rfl q1 rfl (tcells T') HA.out.two.bl Try.underlying41 rfl (by kernel_rfl) ?_) | (refine wpList_store_whole rfl 41 _ _ rfl b (tcells T') rfl rfl HB.out.tb (by simp [tcells_len]) (by kernel_rfl) (tcells_ones T') ?_; intro w' h1' h2' h3'; have HE := Lib.hid (HB.out.grown h2' h1'); have QE := Lib.hid (HQ.out.trans (Quiet.grown h2')); have ca := HE.out.two.bl.cells; have fe := HE.out.three.bl.frees; have ce := HE.out.three.bl.cells; have le := HE.out.three.bl.lt; clear h1' h2' h3'))
  have hf := (((HE.out.three.setB 0 (.int .i64 a1)).setB 1 (.int .i64 a2)).setB 2 (.int .i64 a3))
  have hl := run_load_part (P := Try.prog) (off := 0) (ty := 32) (vs := [.int .i64 a1, .int .i64 a2, .int .i64 a3]) hf.bl rfl Try.underlying32 rfl (by kernel_rfl)
  exact bodyPost_ret (results_cell1 rfl rfl hl) rfl ⟨rfl, ((QE.out.setCell _ _).setCell _ _).setCell _ _, (hf.right.eq (by ac_rfl : _ = bl q2 32 [.int .i64 a1, .int .i64 a2, .int .i64 a3] * (bl b 41 (tcells T') * R))).right⟩
theorem bjob_sl (b : Nat) (t : Tbl) (n : Int) (w : World) {R : HP} (h : Holds w (tb b 41 t * R)) : Calls Try.prog 45 #[.pointer (some ⟨b, 0, none⟩), .int .i64 n] w fun e w' => e = .returned (t.job n).val ∧ Below w.heap.size w w' :=
  bjob_any b 41 [] t n w (by simpa using h.tb)
end Go.Proofs.Ytfihmpkkpgmdhab
