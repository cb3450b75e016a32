/-
  The package node, walked: Order, Tear, Stop, Down, Epoch.
-/
import Derived.Test.YtfihmpkkpgmdhacNodeO
namespace Go.Proofs.Ytfihmpkkpgmdhac
set_option linter.unusedSimpArgs false
set_option linter.unusedVariables false
open Go.RowKit
theorem did_chk {t : Tbl} {o : Ord} (h : (t.did o).2.code = 0) : chk o = 0 := by
  rcases did_shape t o with ⟨e, _⟩ | ⟨h, _⟩
  · exact absurd h e
  · exact h
theorem norder_sl (bn bt bd : Nat) (d : Dsk) (n : Nod) (c nw j r k m kp : Int) (w : World) {R : HP} (h : Holds w (nblk bn bt bd n * (tab bt n.t * (dsk bd d * R)))) (hd : d.Ok) (he : 1 ≤ n.ep) (hok : n.t.Ok) :
    Calls Try.prog 63 #[.pointer (some ⟨bn, 0, none⟩), .agg #[.int .i64 c, .int .i64 nw, .int .i64 j, .int .i64 r, .int .i64 k, .int .i64 m], .int .i64 kp] w (OrdPost w bn bt bd n.t R (n.order d ⟨c, nw, j, r, k, m⟩ (keepN kp))) := by
  obtain ⟨t, ep, dn⟩ := n
  cases dn with
  | true =>
    have := norder_down bn bt bd d t ep c nw j r k m kp w h
    unfold Nod.order
    rw [if_pos rfl]
    exact this
  | false =>
    unfold Nod.order
    rw [if_neg (by simp)]
    dsimp only at he hok ⊢
    by_cases hne : ep = d.ep
    · rw [if_neg (by simpa using hne)]
      by_cases hc : (t.did ⟨c, nw, j, r, k, m⟩).2.code = 0
      · rw [if_neg (by simpa using hc)]
        have h1 := hd.ep
        exact norder_wrote bn bt bd d t ep c nw j r k m kp w h hd hok hne hc (by unfold chkR; rw [if_neg (by dsimp only; omega)]; exact did_chk hc)
      · rw [if_pos hc]
        exact norder_refused bn bt bd d t ep c nw j r k m kp w h hok hne hc
    · rw [if_pos hne]
      exact norder_fenced bn bt bd d t ep c nw j r k m kp w h hne
set_option maxRecDepth 100000 in
set_option maxHeartbeats 4000000 in
theorem nOrder_sl (bn bd : Nat) (d : Dsk) (n : Nod) (c nw j r k m : Int) (w : World) {R : HP} (h : Holds w (nod bn bd n * (dsk bd d * R))) (hd : d.Ok) (he : 1 ≤ n.ep) (hok : n.t.Ok) :
    Calls Try.prog 47 #[.pointer (some ⟨bn, 0, none⟩), .agg #[.int .i64 c, .int .i64 nw, .int .i64 j, .int .i64 r, .int .i64 k, .int .i64 m]] w
      (Post w (dsk bd (n.order d ⟨c, nw, j, r, k, m⟩ 9).1 * R) (n.order d ⟨c, nw, j, r, k, m⟩ 9).2.2.val (nod bn bd (n.order d ⟨c, nw, j, r, k, m⟩ 9).2.1)) := by
  obtain ⟨bt, h⟩ := nod_open h
  have hcall := fun W (R' : HP) (h : Holds W (nblk bn bt bd n * (tab bt n.t * (dsk bd d * R')))) => norder_sl bn bt bd d n c nw j r k m 9 W h hd he hok
  rw [show keepN 9 = 9 from rfl] at hcall
  obtain ⟨⟨d', n', ⟨a1, a2, a3⟩⟩, hX⟩ : ∃ X, n.order d ⟨c, nw, j, r, k, m⟩ 9 = X := ⟨_, rfl⟩
  rw [hX] at hcall ⊢
  have HC := Lib.hid hcall
  clear hX hcall hd he hok
  obtain ⟨w0, hw0, H0, Q0⟩ : ∃ w0, (w.alloc (.cells #[.int .i64 c, .int .i64 nw, .int .i64 j, .int .i64 r, .int .i64 k, .int .i64 m] 28)).alloc (.cells #[.int .i64 0, .int .i64 0, .int .i64 0] 32) = w0 ∧ Hid (Holds w0 (bl (w.heap.size + 1) 32 [.int .i64 0, .int .i64 0, .int .i64 0] * (bl w.heap.size 28 [.int .i64 c, .int .i64 nw, .int .i64 j, .int .i64 r, .int .i64 k, .int .i64 m] * (nblk bn bt bd n * (tab bt n.t * (dsk bd d * R)))))) ∧ Hid (Quiet w w0) :=
    ⟨_, rfl, Lib.hid ((h.boxB (ty := 28) (cs := [.int .i64 c, .int .i64 nw, .int .i64 j, .int .i64 r, .int .i64 k, .int .i64 m]) rfl).boxB (ty := 32) (cs := [.int .i64 0, .int .i64 0, .int .i64 0]) (g := w.heap.size + 1) (by simp)), Lib.hid (((Quiet.refl w).alloc _).alloc _)⟩
  clear h
  obtain ⟨g0, hg0⟩ : ∃ g0, w.heap.size = g0 := ⟨_, rfl⟩
  rw [hg0] at H0
  obtain ⟨ga, hga⟩ : ∃ ga, g0 + 1 = ga := ⟨_, rfl⟩
  rw [hga] at H0
  have co := H0.out.two.bl.cells
  go_enter Try.func47, Try.ntmps47
  go_wp2_with fail
  clear hw0 hg0 hga
  refine (HC.out _ (bl ga 32 [.int .i64 0, .int .i64 0, .int .i64 0] * R) (H0.out.eq (by ac_rfl : _ = bl g0 28 [.int .i64 c, .int .i64 nw, .int .i64 j, .int .i64 r, .int .i64 k, .int .i64 m] * (nblk bn bt bd n * (tab bt n.t * (dsk bd d * (bl ga 32 [.int .i64 0, .int .i64 0, .int .i64 0] * R)))))).right).mono ?_
  rintro e w1 ⟨rfl, q1, hc⟩
  obtain ⟨bt', h1⟩ : ∃ bt' : Nat, Holds w1 (bl ga 32 [.int .i64 0, .int .i64 0, .int .i64 0] * (nblk bn bt' bd n' * (tab bt' n'.t * (dsk bd d' * R)))) := by
    rcases hc with ⟨_, ht, hc⟩ | ⟨_, bt', hc⟩
    · dsimp only at ht hc
      rw [← ht] at hc
      exact ⟨bt, hc.eq (by ac_rfl)⟩
    · dsimp only at hc
      exact ⟨bt', (hc.eq (by ac_rfl : _ = tab bt n.t * (bl ga 32 [.int .i64 0, .int .i64 0, .int .i64 0] * (nblk bn bt' bd n' * (tab bt' n'.t * (dsk bd d' * R)))))).right⟩
  have ca := h1.bl.cells
  have fa := h1.bl.frees
  have la := h1.bl.lt
  have H1 := Lib.hid h1; have Q1 := Lib.hid (Q0.out.trans q1)
  clear h1 q1 hc co H0 Q0
  simp only [Ans.val]
  go_wp2
  have hf := ((H1.out.setB 0 (.int .i64 a1)).setB 1 (.int .i64 a2)).setB 2 (.int .i64 a3)
  have hl := run_load_part (P := Try.prog) (off := 0) (ty := 32) (vs := [.int .i64 a1, .int .i64 a2, .int .i64 a3]) hf.bl rfl Try.underlying32 rfl (by kernel_rfl)
  exact bodyPost_ret (results_cell1 rfl rfl hl) rfl ⟨rfl, ((Q1.out.setCell _ _).setCell _ _).setCell _ _, nod_close hf.right⟩
set_option maxRecDepth 100000 in
set_option maxHeartbeats 4000000 in
theorem nTear_sl (bn bd : Nat) (d : Dsk) (n : Nod) (c nw j r k m kp : Int) (w : World) {R : HP} (h : Holds w (nod bn bd n * (dsk bd d * R))) (hd : d.Ok) (he : 1 ≤ n.ep) (hok : n.t.Ok) :
    Calls Try.prog 48 #[.pointer (some ⟨bn, 0, none⟩), .agg #[.int .i64 c, .int .i64 nw, .int .i64 j, .int .i64 r, .int .i64 k, .int .i64 m], .int .i64 kp] w
      (Post w (dsk bd (n.tear d ⟨c, nw, j, r, k, m⟩ (keepN kp)).1 * R) (.int .i64 (n.tear d ⟨c, nw, j, r, k, m⟩ (keepN kp)).2.2) (nod bn bd (n.tear d ⟨c, nw, j, r, k, m⟩ (keepN kp)).2.1)) := by
  obtain ⟨bt, h⟩ := nod_open h
  have hcall := fun W (R' : HP) (h : Holds W (nblk bn bt bd n * (tab bt n.t * (dsk bd d * R')))) => norder_sl bn bt bd d n c nw j r k m kp W h hd he hok
  unfold Nod.tear
  obtain ⟨⟨d', n', ⟨a1, a2, a3⟩⟩, hX⟩ : ∃ X, n.order d ⟨c, nw, j, r, k, m⟩ (keepN kp) = X := ⟨_, rfl⟩
  rw [hX] at hcall ⊢
  dsimp only at hcall ⊢
  obtain ⟨Y, hY⟩ : ∃ Y, (if a1 = 0 then (d', (⟨n.t, n'.ep, true⟩ : Nod), a1) else (d', n', a1)) = Y := ⟨_, rfl⟩
  rw [hY]
  have HY := Lib.hid hY
  have HC := Lib.hid hcall
  clear hX hcall hd he hok hY
  have cn := (show BlockAt w bn 61 (ncells bt bd n) from h.bl).cells
  have ln := (show BlockAt w bn 61 (ncells bt bd n) from h.bl).lt
  simp only [ncells] at cn
  have h0 := h.boxB (ty := 28) (cs := [.int .i64 c, .int .i64 nw, .int .i64 j, .int .i64 r, .int .i64 k, .int .i64 m]) rfl
  have H0 := Lib.hid h0
  clear h h0
  go_enter Try.func48, Try.ntmps48
  go_wp2_with fail
  refine (HC.out _ R H0.out.right).mono ?_
  rintro e w1 ⟨rfl, q1, hc⟩
  have Q1 := Lib.hid (((Quiet.refl w).alloc (.cells #[.int .i64 c, .int .i64 nw, .int .i64 j, .int .i64 r, .int .i64 k, .int .i64 m] 28)).trans q1)
  have HCC := Lib.hid hc
  clear q1 hc cn ln H0
  simp only [Ans.val]
  by_cases hz : a1 = 0
  · subst hz
    obtain ⟨bt', h1⟩ : ∃ bt' : Nat, Holds w1 (nblk bn bt' bd n' * (tab bt n.t * (dsk bd d' * R))) := by
      rcases HCC.out with ⟨hc, _⟩ | ⟨_, bt', hc⟩
      · exact absurd rfl hc
      · dsimp only at hc
        exact ⟨bt', (hc.eq (by ac_rfl : _ = tab bt' n'.t * (nblk bn bt' bd n' * (tab bt n.t * (dsk bd d' * R))))).right⟩
    have HY2 := Lib.hid (show (d', (⟨n.t, n'.ep, true⟩ : Nod), (0 : Int)) = Y by rw [← HY.out, if_pos rfl])
    have cn := (show BlockAt w1 bn 61 (ncells bt' bd n') from h1.bl).cells
    have fn := (show BlockAt w1 bn 61 (ncells bt' bd n') from h1.bl).frees
    have ln := (show BlockAt w1 bn 61 (ncells bt' bd n') from h1.bl).lt
    simp only [ncells] at cn
    have H1 := Lib.hid h1
    clear h1 HCC HY
    go_wp2
    rw [← HY2.out]
    go_ret
    exact ⟨rfl, ((Q1.out.setCell _ _).setCell _ _).alloc _, nod_close (((H1.out.setB 0 (.pointer (some ⟨bt, 0, none⟩))).setB 3 (.bool true)).alloc _)⟩
  · have hzb : (a1 == 0) = false := by simpa using hz
    have h1 : Holds w1 (nblk bn bt bd n' * (tab bt n'.t * (dsk bd d' * R))) := by
      rcases HCC.out with ⟨_, ht, hc⟩ | ⟨hc, _⟩
      · dsimp only at hc ht
        rw [ht]; exact hc
      · exact absurd hc hz
    have HY2 := Lib.hid (show (d', n', a1) = Y by rw [← HY.out, if_neg hz])
    have H1 := Lib.hid h1
    clear h1 HCC HY hz
    go_wp2
    rw [← HY2.out]
    go_ret
    exact ⟨rfl, Q1.out.alloc _, nod_close (H1.out.alloc _)⟩
theorem nDown_sl (bn bd : Nat) (n : Nod) (w : World) {R : HP} (h : Holds w (nod bn bd n * R)) : Calls Try.prog 17 #[.pointer (some ⟨bn, 0, none⟩)] w fun e w' => e = .returned (.bool n.down) ∧ w = w' := by
  obtain ⟨bt, h⟩ := nod_open h
  have cn := (show BlockAt w bn 61 (ncells bt bd n) from h.bl).cells
  simp only [ncells] at cn
  clear h
  go_enter Try.func17, Try.ntmps17
  go_wp2
  go_ret
  exact ⟨rfl, rfl⟩
theorem nEpoch_sl (bn bd : Nat) (n : Nod) (w : World) {R : HP} (h : Holds w (nod bn bd n * R)) : Calls Try.prog 25 #[.pointer (some ⟨bn, 0, none⟩)] w fun e w' => e = .returned (.int .i64 n.ep) ∧ w = w' := by
  obtain ⟨bt, h⟩ := nod_open h
  have cn := (show BlockAt w bn 61 (ncells bt bd n) from h.bl).cells
  simp only [ncells] at cn
  clear h
  go_enter Try.func25, Try.ntmps25
  go_wp2
  go_ret
  exact ⟨rfl, rfl⟩
theorem nStop_sl (bn bd : Nat) (n : Nod) (w : World) {R : HP} (h : Holds w (nod bn bd n * R)) : Calls Try.prog 49 #[.pointer (some ⟨bn, 0, none⟩)] w (Post w R (.tuple #[]) (nod bn bd ⟨n.t, n.ep, true⟩)) := by
  obtain ⟨bt, h⟩ := nod_open h
  have cn := (show BlockAt w bn 61 (ncells bt bd n) from h.bl).cells
  have fn := (show BlockAt w bn 61 (ncells bt bd n) from h.bl).frees
  simp only [ncells] at cn
  have H := Lib.hid h
  clear h
  go_enter Try.func49, Try.ntmps49
  go_wp2
  refine bodyPost_ret (v := .tuple #[]) (by simp [results, Try.results49, go_sem]) rfl ⟨rfl, (Quiet.refl w).setCell _ _, nod_close (H.out.setB 3 (.bool true))⟩
end Go.Proofs.Ytfihmpkkpgmdhac
