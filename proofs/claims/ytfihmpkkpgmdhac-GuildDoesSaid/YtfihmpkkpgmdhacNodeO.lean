/-
  The package node, walked: an order of a node.
-/
import Derived.Test.YtfihmpkkpgmdhacNodeS
import Derived.Test.YtfihmpkkpgmdhacLex
import Derived.Lib.MinMax
namespace Go.Proofs.Ytfihmpkkpgmdhac
set_option linter.unusedSimpArgs false
set_option linter.unusedVariables false
open Go.RowKit
/-- What an order of a node leaves: its table is the old one, or a new one beside it. -/
def OrdPost (w : World) (bn bt bd : Nat) (t : Tbl) (R : HP) (x : Dsk × Nod × Ans) (e : Ending) (w' : World) : Prop :=
  e = .returned x.2.2.val ∧ Quiet w w' ∧
    (x.2.2.code ≠ 0 ∧ x.2.1.t = t ∧ Holds w' (nblk bn bt bd x.2.1 * (tab bt t * (dsk bd x.1 * R))) ∨
     x.2.2.code = 0 ∧ ∃ bt' : Nat, Holds w' (nblk bn bt' bd x.2.1 * (tab bt' x.2.1.t * (tab bt t * (dsk bd x.1 * R)))))
def ncells (bt bd : Nat) (n : Nod) : List Value := [.pointer (some ⟨bt, 0, none⟩), .pointer (some ⟨bd, 0, none⟩), .int .i64 n.ep, .bool n.down]
set_option maxRecDepth 100000 in
set_option maxHeartbeats 4000000 in
theorem norder_down (bn bt bd : Nat) (d : Dsk) (t : Tbl) (ep c nw j r k m kp : Int) (w : World) {R : HP} (h : Holds w (nblk bn bt bd ⟨t, ep, true⟩ * (tab bt t * (dsk bd d * R))))  :
    Calls Try.prog 63 #[.pointer (some ⟨bn, 0, none⟩), .agg #[.int .i64 c, .int .i64 nw, .int .i64 j, .int .i64 r, .int .i64 k, .int .i64 m], .int .i64 kp] w (OrdPost w bn bt bd t R (d, ⟨t, ep, true⟩, ⟨10, 0, 0⟩)) := by
  obtain ⟨w0, hw0, H0, Q0⟩ : ∃ w0, (w.alloc (.cells #[.int .i64 c, .int .i64 nw, .int .i64 j, .int .i64 r, .int .i64 k, .int .i64 m] 28)).alloc (.cells #[.int .i64 0, .int .i64 0, .int .i64 0] 32) = w0 ∧ Hid (Holds w0 (bl (w.heap.size + 1) 32 [.int .i64 0, .int .i64 0, .int .i64 0] * (bl w.heap.size 28 [.int .i64 c, .int .i64 nw, .int .i64 j, .int .i64 r, .int .i64 k, .int .i64 m] * (nblk bn bt bd ⟨t, ep, true⟩ * (tab bt t * (dsk bd d * R)))))) ∧ Hid (Quiet w w0) :=
    ⟨_, rfl, Lib.hid ((h.boxB (ty := 28) (cs := [.int .i64 c, .int .i64 nw, .int .i64 j, .int .i64 r, .int .i64 k, .int .i64 m]) rfl).boxB (ty := 32) (cs := [.int .i64 0, .int .i64 0, .int .i64 0]) (g := w.heap.size + 1) (by simp)), Lib.hid (((Quiet.refl w).alloc _).alloc _)⟩
  clear h
  obtain ⟨g0, hg0⟩ : ∃ g0, w.heap.size = g0 := ⟨_, rfl⟩
  rw [hg0] at H0
  obtain ⟨ga, hga⟩ : ∃ ga, g0 + 1 = ga := ⟨_, rfl⟩
  rw [hga] at H0
  have cn := (show BlockAt w0 bn 61 (ncells bt bd ⟨t, ep, true⟩) from H0.out.three.bl).cells
  simp only [ncells] at cn
  have ca := H0.out.bl.cells
  have fa := H0.out.bl.frees
  have la := H0.out.bl.lt
  go_enter Try.func63, Try.ntmps63
  go_wp2
  have hf := ((H0.out.setB 0 (.int .i64 10)).setB 1 (.int .i64 0)).setB 2 (.int .i64 0)
  have hl := run_load_part (P := Try.prog) (off := 0) (ty := 32) (vs := [.int .i64 10, .int .i64 0, .int .i64 0]) hf.bl rfl Try.underlying32 rfl (by kernel_rfl)
  exact bodyPost_ret (results_cell1 rfl rfl hl) rfl ⟨rfl, ((Q0.out.setCell _ _).setCell _ _).setCell _ _, .inl ⟨by simp, rfl, hf.right.right⟩⟩
set_option maxRecDepth 100000 in
set_option maxHeartbeats 4000000 in
theorem norder_fenced (bn bt bd : Nat) (d : Dsk) (t : Tbl) (ep c nw j r k m kp : Int) (w : World) {R : HP} (h : Holds w (nblk bn bt bd ⟨t, ep, false⟩ * (tab bt t * (dsk bd d * R)))) (hne : ep ≠ d.ep) :
    Calls Try.prog 63 #[.pointer (some ⟨bn, 0, none⟩), .agg #[.int .i64 c, .int .i64 nw, .int .i64 j, .int .i64 r, .int .i64 k, .int .i64 m], .int .i64 kp] w (OrdPost w bn bt bd t R (d, ⟨t, ep, true⟩, ⟨9, 0, 0⟩)) := by
  have hne1 : (ep != d.ep) = true := by simpa using hne
  clear hne
  obtain ⟨w0, hw0, H0, Q0⟩ : ∃ w0, (w.alloc (.cells #[.int .i64 c, .int .i64 nw, .int .i64 j, .int .i64 r, .int .i64 k, .int .i64 m] 28)).alloc (.cells #[.int .i64 0, .int .i64 0, .int .i64 0] 32) = w0 ∧ Hid (Holds w0 (bl (w.heap.size + 1) 32 [.int .i64 0, .int .i64 0, .int .i64 0] * (bl w.heap.size 28 [.int .i64 c, .int .i64 nw, .int .i64 j, .int .i64 r, .int .i64 k, .int .i64 m] * (nblk bn bt bd ⟨t, ep, false⟩ * (tab bt t * (dsk bd d * R)))))) ∧ Hid (Quiet w w0) :=
    ⟨_, rfl, Lib.hid ((h.boxB (ty := 28) (cs := [.int .i64 c, .int .i64 nw, .int .i64 j, .int .i64 r, .int .i64 k, .int .i64 m]) rfl).boxB (ty := 32) (cs := [.int .i64 0, .int .i64 0, .int .i64 0]) (g := w.heap.size + 1) (by simp)), Lib.hid (((Quiet.refl w).alloc _).alloc _)⟩
  clear h
  obtain ⟨g0, hg0⟩ : ∃ g0, w.heap.size = g0 := ⟨_, rfl⟩
  rw [hg0] at H0
  obtain ⟨ga, hga⟩ : ∃ ga, g0 + 1 = ga := ⟨_, rfl⟩
  rw [hga] at H0
  have cn := (show BlockAt w0 bn 61 (ncells bt bd ⟨t, ep, false⟩) from H0.out.three.bl).cells
  simp only [ncells] at cn
  go_enter Try.func63, Try.ntmps63
  go_wp2_with fail
  clear hw0 hg0 hga
  refine wp_region_lex (fun W => ∀ o, W.cell? ⟨bn, o, none⟩ = [.pointer (some ⟨bt, 0, none⟩), .pointer (some ⟨bd, 0, none⟩), .int .i64 ep, .bool false][o]?) [8] (by kernel_rfl) (by kernel_rfl) cn ?_
  repeat (first | (refine LexL.none (by rfl) ?_; (try simp only [Act.put, List.setIfInBounds_toArray, List.set_cons_zero, List.set_cons_succ])) | (refine LexL.still (v := ?_) (by rfl) ?_ ?_; rotate_left; (focus (intro W hW; (try dsimp only at hW); go_simp; (try (with_reducible rfl)); done)); (try simp only [Act.put, List.setIfInBounds_toArray, List.set_cons_zero, List.set_cons_succ])))
  refine LexL.call (f := 19) (args := #[.pointer (some ⟨bd, 0, none⟩)]) (w1 := w0.drew) (by rfl) (by decide) (by go_simp) ?_
  refine (depoch_sl bd d _ (H0.out.drew.eq (by ac_rfl : _ = dsk bd d * (bl ga 32 [.int .i64 0, .int .i64 0, .int .i64 0] * (bl g0 28 [.int .i64 c, .int .i64 nw, .int .i64 j, .int .i64 r, .int .i64 k, .int .i64 m] * (nblk bn bt bd ⟨t, ep, false⟩ * (tab bt t * R))))))).mono ?_
  rintro e w1 ⟨rfl, rfl⟩
  refine ⟨_, rfl, cn, ?_⟩
  try simp only [Act.put, List.setIfInBounds_toArray, List.set_cons_zero, List.set_cons_succ]
  repeat (first | (refine LexL.none (by rfl) ?_; (try simp only [Act.put, List.setIfInBounds_toArray, List.set_cons_zero, List.set_cons_succ])) | (refine LexL.still (v := ?_) (by rfl) ?_ ?_; rotate_left; (focus (intro W hW; (try dsimp only at hW); go_simp; (try (with_reducible rfl)); done)); (try simp only [Act.put, List.setIfInBounds_toArray, List.set_cons_zero, List.set_cons_succ])))
  refine LexL.done ?_
  have hd1 := H0.out.drew
  have qd1 := Q0.out.drew
  obtain ⟨w1, hw1⟩ : ∃ w1, w0.drew = w1 := ⟨_, rfl⟩
  rw [hw1] at hd1 qd1 ⊢
  have H1 := Lib.hid hd1; have Q1 := Lib.hid qd1
  clear hw1 hd1 qd1 cn H0 Q0
  have cn := (show BlockAt w1 bn 61 (ncells bt bd ⟨t, ep, false⟩) from H1.out.three.bl).cells
  simp only [ncells] at cn
  have fn := (show BlockAt w1 bn 61 (ncells bt bd ⟨t, ep, false⟩) from H1.out.three.bl).frees
  have ln := (show BlockAt w1 bn 61 (ncells bt bd ⟨t, ep, false⟩) from H1.out.three.bl).lt
  have ca := H1.out.bl.cells
  have fa := H1.out.bl.frees
  have la := H1.out.bl.lt
  go_wp2
  have hf := (((H1.out.three.setB 3 (.bool true)).two.setB 0 (.int .i64 9)).setB 1 (.int .i64 0)).setB 2 (.int .i64 0)
  have hl := run_load_part (P := Try.prog) (off := 0) (ty := 32) (vs := [.int .i64 9, .int .i64 0, .int .i64 0]) hf.bl rfl Try.underlying32 rfl (by kernel_rfl)
  exact bodyPost_ret (results_cell1 rfl rfl hl) rfl ⟨rfl, (((Q1.out.setCell _ _).setCell _ _).setCell _ _).setCell _ _, .inl ⟨by simp, rfl, hf.right.two.right⟩⟩
set_option maxRecDepth 100000 in
set_option maxHeartbeats 4000000 in
theorem norder_refused (bn bt bd : Nat) (d : Dsk) (t : Tbl) (ep c nw j r k m kp : Int) (w : World) {R : HP} (h : Holds w (nblk bn bt bd ⟨t, ep, false⟩ * (tab bt t * (dsk bd d * R)))) (hok : t.Ok) (he : ep = d.ep) (hcd : (t.did ⟨c, nw, j, r, k, m⟩).2.code ≠ 0) :
    Calls Try.prog 63 #[.pointer (some ⟨bn, 0, none⟩), .agg #[.int .i64 c, .int .i64 nw, .int .i64 j, .int .i64 r, .int .i64 k, .int .i64 m], .int .i64 kp] w (OrdPost w bn bt bd t R (d, ⟨t, ep, false⟩, (t.did ⟨c, nw, j, r, k, m⟩).2)) := by
  obtain ⟨⟨T', ⟨a1, a2, a3⟩⟩, hX⟩ : ∃ X, t.did ⟨c, nw, j, r, k, m⟩ = X := ⟨_, rfl⟩
  rw [hX] at hcd ⊢
  dsimp only at hcd
  have hcd1 : (a1 != 0) = true := by simpa using hcd
  have hee : (ep != d.ep) = false := by simpa using he
  have HX := Lib.hid hX; have HOK := Lib.hid hok; have HCD := Lib.hid hcd; clear hX hok hcd he
  obtain ⟨w0, hw0, H0, Q0⟩ : ∃ w0, (w.alloc (.cells #[.int .i64 c, .int .i64 nw, .int .i64 j, .int .i64 r, .int .i64 k, .int .i64 m] 28)).alloc (.cells #[.int .i64 0, .int .i64 0, .int .i64 0] 32) = w0 ∧ Hid (Holds w0 (bl (w.heap.size + 1) 32 [.int .i64 0, .int .i64 0, .int .i64 0] * (bl w.heap.size 28 [.int .i64 c, .int .i64 nw, .int .i64 j, .int .i64 r, .int .i64 k, .int .i64 m] * (nblk bn bt bd ⟨t, ep, false⟩ * (tab bt t * (dsk bd d * R)))))) ∧ Hid (Quiet w w0) :=
    ⟨_, rfl, Lib.hid ((h.boxB (ty := 28) (cs := [.int .i64 c, .int .i64 nw, .int .i64 j, .int .i64 r, .int .i64 k, .int .i64 m]) rfl).boxB (ty := 32) (cs := [.int .i64 0, .int .i64 0, .int .i64 0]) (g := w.heap.size + 1) (by simp)), Lib.hid (((Quiet.refl w).alloc _).alloc _)⟩
  clear h
  obtain ⟨g0, hg0⟩ : ∃ g0, w.heap.size = g0 := ⟨_, rfl⟩
  rw [hg0] at H0
  obtain ⟨ga, hga⟩ : ∃ ga, g0 + 1 = ga := ⟨_, rfl⟩
  rw [hga] at H0
  have cn := (show BlockAt w0 bn 61 (ncells bt bd ⟨t, ep, false⟩) from H0.out.three.bl).cells
  simp only [ncells] at cn
  go_enter Try.func63, Try.ntmps63
  go_wp2_with fail
  clear hw0 hg0 hga
  refine wp_region_lex (fun W => ∀ o, W.cell? ⟨bn, o, none⟩ = [.pointer (some ⟨bt, 0, none⟩), .pointer (some ⟨bd, 0, none⟩), .int .i64 ep, .bool false][o]?) [8] (by kernel_rfl) (by kernel_rfl) cn ?_
  repeat (first | (refine LexL.none (by rfl) ?_; (try simp only [Act.put, List.setIfInBounds_toArray, List.set_cons_zero, List.set_cons_succ])) | (refine LexL.still (v := ?_) (by rfl) ?_ ?_; rotate_left; (focus (intro W hW; (try dsimp only at hW); go_simp; (try (with_reducible rfl)); done)); (try simp only [Act.put, List.setIfInBounds_toArray, List.set_cons_zero, List.set_cons_succ])))
  refine LexL.call (f := 19) (args := #[.pointer (some ⟨bd, 0, none⟩)]) (w1 := w0.drew) (by rfl) (by decide) (by go_simp) ?_
  refine (depoch_sl bd d _ (H0.out.drew.eq (by ac_rfl : _ = dsk bd d * (bl ga 32 [.int .i64 0, .int .i64 0, .int .i64 0] * (bl g0 28 [.int .i64 c, .int .i64 nw, .int .i64 j, .int .i64 r, .int .i64 k, .int .i64 m] * (nblk bn bt bd ⟨t, ep, false⟩ * (tab bt t * R))))))).mono ?_
  rintro e w1 ⟨rfl, rfl⟩
  refine ⟨_, rfl, cn, ?_⟩
  try simp only [Act.put, List.setIfInBounds_toArray, List.set_cons_zero, List.set_cons_succ]
  repeat (first | (refine LexL.none (by rfl) ?_; (try simp only [Act.put, List.setIfInBounds_toArray, List.set_cons_zero, List.set_cons_succ])) | (refine LexL.still (v := ?_) (by rfl) ?_ ?_; rotate_left; (focus (intro W hW; (try dsimp only at hW); go_simp; (try (with_reducible rfl)); done)); (try simp only [Act.put, List.setIfInBounds_toArray, List.set_cons_zero, List.set_cons_succ])))
  refine LexL.done ?_
  have hd1 := H0.out.drew
  have qd1 := Q0.out.drew
  obtain ⟨w1, hw1⟩ : ∃ w1, w0.drew = w1 := ⟨_, rfl⟩
  rw [hw1] at hd1 qd1 ⊢
  have H1 := Lib.hid hd1; have Q1 := Lib.hid qd1
  clear hw1 hd1 qd1 cn H0 Q0
  have cn := (show BlockAt w1 bn 61 (ncells bt bd ⟨t, ep, false⟩) from H1.out.three.bl).cells
  simp only [ncells] at cn
  go_wp2_with fail
  refine (own_sl bt t _ (H1.out.eq (by ac_rfl : _ = tab bt t * (bl ga 32 [.int .i64 0, .int .i64 0, .int .i64 0] * (bl g0 28 [.int .i64 c, .int .i64 nw, .int .i64 j, .int .i64 r, .int .i64 k, .int .i64 m] * (nblk bn bt bd ⟨t, ep, false⟩ * (dsk bd d * R))))))).mono ?_
  rintro e w2 ⟨bt', rfl, q2, h2⟩
  have H2 := Lib.hid h2; have Q2 := Lib.hid (Q1.out.trans q2); clear h2 q2 H1 Q1
  go_wp2_with (refine wpList_load_whole rfl 28 _ rfl g0 rfl [.int .i64 c, .int .i64 nw, .int .i64 j, .int .i64 r, .int .i64 k, .int .i64 m] (H2.out.right.three.bl) Try.underlying28 rfl (by kernel_rfl) ?_)
  refine (do_sl bt' t c nw j r k m _ H2.out HOK.out).mono ?_
  rw [HX.out]
  rintro e w3 ⟨rfl, q3, h3⟩
  have h4 := h3.boxB (ty := 32) (cs := [.int .i64 a1, .int .i64 a2, .int .i64 a3]) rfl
  have q4 := (Q2.out.trans q3).alloc (.cells ([.int .i64 a1, .int .i64 a2, .int .i64 a3] : List Value).toArray 32)
  obtain ⟨w4, hw4⟩ : ∃ w4, w3.alloc (.cells #[.int .i64 a1, .int .i64 a2, .int .i64 a3] 32) = w4 := ⟨_, rfl⟩
  obtain ⟨gx, hgx⟩ : ∃ gx, w3.heap.size = gx := ⟨_, rfl⟩
  have h4' : Holds w4 (bl gx 32 [.int .i64 a1, .int .i64 a2, .int .i64 a3] * (tab bt' T' * (tab bt t * (bl ga 32 [.int .i64 0, .int .i64 0, .int .i64 0] * (bl g0 28 [.int .i64 c, .int .i64 nw, .int .i64 j, .int .i64 r, .int .i64 k, .int .i64 m] * (nblk bn bt bd ⟨t, ep, false⟩ * (dsk bd d * R))))))) := by rw [← hw4, ← hgx]; exact h4
  have q4' : Quiet w w4 := by rw [← hw4]; exact q4
  have H4 := Lib.hid h4'; have Q4 := Lib.hid q4'
  have cx := H4.out.bl.cells
  clear h3 q3 h4 q4 h4' q4' H2 Q2 cn
  have ca := H4.out.four.bl.cells
  have fa := H4.out.four.bl.frees
  have la := H4.out.four.bl.lt
  go_wp2
  have hf := ((H4.out.four.setB 0 (.int .i64 a1)).setB 1 (.int .i64 a2)).setB 2 (.int .i64 a3)
  have hl := run_load_part (P := Try.prog) (off := 0) (ty := 32) (vs := [.int .i64 a1, .int .i64 a2, .int .i64 a3]) hf.bl rfl Try.underlying32 rfl (by kernel_rfl)
  exact bodyPost_ret (results_cell1 rfl rfl hl) rfl ⟨rfl, ((Q4.out.setCell _ _).setCell _ _).setCell _ _, .inl ⟨HCD.out, rfl, ((hf.right.right.right.eq (by ac_rfl : _ = bl g0 28 [.int .i64 c, .int .i64 nw, .int .i64 j, .int .i64 r, .int .i64 k, .int .i64 m] * (nblk bn bt bd ⟨t, ep, false⟩ * (tab bt t * (dsk bd d * R))))).right)⟩⟩
set_option maxRecDepth 100000 in
set_option maxHeartbeats 4000000 in
theorem norder_wrote (bn bt bd : Nat) (d : Dsk) (t : Tbl) (ep c nw j r k m kp : Int) (w : World) {R : HP} (h : Holds w (nblk bn bt bd ⟨t, ep, false⟩ * (tab bt t * (dsk bd d * R)))) (hd : d.Ok) (hok : t.Ok) (he : ep = d.ep) (hcd : (t.did ⟨c, nw, j, r, k, m⟩).2.code = 0) (hr : chkR ⟨ep, ⟨c, nw, j, r, k, m⟩⟩ = 0) :
    Calls Try.prog 63 #[.pointer (some ⟨bn, 0, none⟩), .agg #[.int .i64 c, .int .i64 nw, .int .i64 j, .int .i64 r, .int .i64 k, .int .i64 m], .int .i64 kp] w (OrdPost w bn bt bd t R (if (d.append ep ((encB ⟨ep, ⟨c, nw, j, r, k, m⟩⟩).take (keepN kp))).2 ≠ 0 then (d, ⟨t, ep, false⟩, ⟨(d.append ep ((encB ⟨ep, ⟨c, nw, j, r, k, m⟩⟩).take (keepN kp))).2, 0, 0⟩) else ((d.append ep ((encB ⟨ep, ⟨c, nw, j, r, k, m⟩⟩).take (keepN kp))).1, ⟨(t.did ⟨c, nw, j, r, k, m⟩).1, ep, false⟩, (t.did ⟨c, nw, j, r, k, m⟩).2))) := by
  obtain ⟨⟨T', ⟨a1, a2, a3⟩⟩, hX⟩ : ∃ X, t.did ⟨c, nw, j, r, k, m⟩ = X := ⟨_, rfl⟩
  rw [hX] at hcd ⊢
  dsimp only at hcd
  have hcd1 : (a1 != 0) = false := by simpa using hcd
  have hee : (ep != d.ep) = false := by simpa using he
  obtain ⟨l, hl⟩ : ∃ l, encB ⟨ep, ⟨c, nw, j, r, k, m⟩⟩ = l := ⟨_, rfl⟩
  have hl9 : l.length = 9 := by rw [← hl, encB_len]
  obtain ⟨⟨d', ac⟩, hap⟩ : ∃ Y, d.append ep (l.take (keepN kp)) = Y := ⟨_, rfl⟩
  rw [hl, hap]
  obtain ⟨K, hK⟩ : ∃ K, keepN kp = K := ⟨_, rfl⟩
  rw [hK] at hap
  have hK0 : min (max kp 0) 9 = (K : Int) := by rw [← hK]; unfold keepN; omega
  have hK9 : K ≤ 9 := by rw [← hK]; unfold keepN; omega
  clear hK
  obtain ⟨Y, hY⟩ : ∃ Y, (if (d', ac).2 ≠ 0 then (d, (⟨t, ep, false⟩ : Nod), (⟨(d', ac).2, 0, 0⟩ : Ans)) else ((d', ac).1, ⟨T', ep, false⟩, ⟨a1, a2, a3⟩)) = Y := ⟨_, rfl⟩
  rw [hY]
  dsimp only at hY
  have HY := Lib.hid hY; clear hY
  have HX := Lib.hid hX; have HOK := Lib.hid hok; have HCD := Lib.hid hcd; have HR := Lib.hid hr; have HL := Lib.hid hl; have HL9 := Lib.hid hl9; have HAP := Lib.hid hap; have HD := Lib.hid hd
  clear hX hok hcd he hr hl hl9 hap hd
  obtain ⟨w0, hw0, H0, Q0⟩ : ∃ w0, (w.alloc (.cells #[.int .i64 c, .int .i64 nw, .int .i64 j, .int .i64 r, .int .i64 k, .int .i64 m] 28)).alloc (.cells #[.int .i64 0, .int .i64 0, .int .i64 0] 32) = w0 ∧ Hid (Holds w0 (bl (w.heap.size + 1) 32 [.int .i64 0, .int .i64 0, .int .i64 0] * (bl w.heap.size 28 [.int .i64 c, .int .i64 nw, .int .i64 j, .int .i64 r, .int .i64 k, .int .i64 m] * (nblk bn bt bd ⟨t, ep, false⟩ * (tab bt t * (dsk bd d * R)))))) ∧ Hid (Quiet w w0) :=
    ⟨_, rfl, Lib.hid ((h.boxB (ty := 28) (cs := [.int .i64 c, .int .i64 nw, .int .i64 j, .int .i64 r, .int .i64 k, .int .i64 m]) rfl).boxB (ty := 32) (cs := [.int .i64 0, .int .i64 0, .int .i64 0]) (g := w.heap.size + 1) (by simp)), Lib.hid (((Quiet.refl w).alloc _).alloc _)⟩
  clear h
  obtain ⟨g0, hg0⟩ : ∃ g0, w.heap.size = g0 := ⟨_, rfl⟩
  rw [hg0] at H0
  obtain ⟨ga, hga⟩ : ∃ ga, g0 + 1 = ga := ⟨_, rfl⟩
  rw [hga] at H0
  have cn := (show BlockAt w0 bn 61 (ncells bt bd ⟨t, ep, false⟩) from H0.out.three.bl).cells
  simp only [ncells] at cn
  go_enter Try.func63, Try.ntmps63
  go_wp2_with fail
  clear hw0 hg0 hga
  refine wp_region_lex (fun W => ∀ o, W.cell? ⟨bn, o, none⟩ = [.pointer (some ⟨bt, 0, none⟩), .pointer (some ⟨bd, 0, none⟩), .int .i64 ep, .bool false][o]?) [8] (by kernel_rfl) (by kernel_rfl) cn ?_
  repeat (first | (refine LexL.none (by rfl) ?_; (try simp only [Act.put, List.setIfInBounds_toArray, List.set_cons_zero, List.set_cons_succ])) | (refine LexL.still (v := ?_) (by rfl) ?_ ?_; rotate_left; (focus (intro W hW; (try dsimp only at hW); go_simp; (try (with_reducible rfl)); done)); (try simp only [Act.put, List.setIfInBounds_toArray, List.set_cons_zero, List.set_cons_succ])))
  refine LexL.call (f := 19) (args := #[.pointer (some ⟨bd, 0, none⟩)]) (w1 := w0.drew) (by rfl) (by decide) (by go_simp) ?_
  refine (depoch_sl bd d _ (H0.out.drew.eq (by ac_rfl : _ = dsk bd d * (bl ga 32 [.int .i64 0, .int .i64 0, .int .i64 0] * (bl g0 28 [.int .i64 c, .int .i64 nw, .int .i64 j, .int .i64 r, .int .i64 k, .int .i64 m] * (nblk bn bt bd ⟨t, ep, false⟩ * (tab bt t * R))))))).mono ?_
  rintro e w1 ⟨rfl, rfl⟩
  refine ⟨_, rfl, cn, ?_⟩
  try simp only [Act.put, List.setIfInBounds_toArray, List.set_cons_zero, List.set_cons_succ]
  repeat (first | (refine LexL.none (by rfl) ?_; (try simp only [Act.put, List.setIfInBounds_toArray, List.set_cons_zero, List.set_cons_succ])) | (refine LexL.still (v := ?_) (by rfl) ?_ ?_; rotate_left; (focus (intro W hW; (try dsimp only at hW); go_simp; (try (with_reducible rfl)); done)); (try simp only [Act.put, List.setIfInBounds_toArray, List.set_cons_zero, List.set_cons_succ])))
  refine LexL.done ?_
  have hd1 := H0.out.drew
  have qd1 := Q0.out.drew
  obtain ⟨w1, hw1⟩ : ∃ w1, w0.drew = w1 := ⟨_, rfl⟩
  rw [hw1] at hd1 qd1 ⊢
  have H1 := Lib.hid hd1; have Q1 := Lib.hid qd1
  clear hw1 hd1 qd1 cn H0 Q0
  have cn := (show BlockAt w1 bn 61 (ncells bt bd ⟨t, ep, false⟩) from H1.out.three.bl).cells
  simp only [ncells] at cn
  go_wp2_with fail
  refine (own_sl bt t _ (H1.out.eq (by ac_rfl : _ = tab bt t * (bl ga 32 [.int .i64 0, .int .i64 0, .int .i64 0] * (bl g0 28 [.int .i64 c, .int .i64 nw, .int .i64 j, .int .i64 r, .int .i64 k, .int .i64 m] * (nblk bn bt bd ⟨t, ep, false⟩ * (dsk bd d * R))))))).mono ?_
  rintro e w2 ⟨bt', rfl, q2, h2⟩
  have H2 := Lib.hid h2; have Q2 := Lib.hid (Q1.out.trans q2); clear h2 q2 H1 Q1
  go_wp2_with (refine wpList_load_whole rfl 28 _ rfl g0 rfl [.int .i64 c, .int .i64 nw, .int .i64 j, .int .i64 r, .int .i64 k, .int .i64 m] (H2.out.right.three.bl) Try.underlying28 rfl (by kernel_rfl) ?_)
  refine (do_sl bt' t c nw j r k m _ H2.out HOK.out).mono ?_
  rw [HX.out]
  rintro e w3 ⟨rfl, q3, h3⟩
  have h4 := h3.boxB (ty := 32) (cs := [.int .i64 a1, .int .i64 a2, .int .i64 a3]) rfl
  have q4 := (Q2.out.trans q3).alloc (.cells ([.int .i64 a1, .int .i64 a2, .int .i64 a3] : List Value).toArray 32)
  obtain ⟨w4, hw4⟩ : ∃ w4, w3.alloc (.cells #[.int .i64 a1, .int .i64 a2, .int .i64 a3] 32) = w4 := ⟨_, rfl⟩
  obtain ⟨gx, hgx⟩ : ∃ gx, w3.heap.size = gx := ⟨_, rfl⟩
  have h4' : Holds w4 (bl gx 32 [.int .i64 a1, .int .i64 a2, .int .i64 a3] * (tab bt' T' * (tab bt t * (bl ga 32 [.int .i64 0, .int .i64 0, .int .i64 0] * (bl g0 28 [.int .i64 c, .int .i64 nw, .int .i64 j, .int .i64 r, .int .i64 k, .int .i64 m] * (nblk bn bt bd ⟨t, ep, false⟩ * (dsk bd d * R))))))) := by rw [← hw4, ← hgx]; exact h4
  have q4' : Quiet w w4 := by rw [← hw4]; exact q4
  have H4 := Lib.hid h4'; have Q4 := Lib.hid q4'
  have cx := H4.out.bl.cells
  clear h3 q3 h4 q4 h4' q4' H2 Q2 cn
  go_wp2_with fail
  clear hw4 hgx
  have cn : ∀ o, w4.cell? ⟨bn, o, none⟩ = [.pointer (some ⟨bt, 0, none⟩), .pointer (some ⟨bd, 0, none⟩), .int .i64 ep, .bool false][o]? := (show BlockAt w4 bn 61 (ncells bt bd ⟨t, ep, false⟩) from H4.out.right.right.right.right.right.bl).cells
  have co := H4.out.right.right.right.right.bl.cells
  refine wp_region_lex (fun W => (∀ o, W.cell? ⟨bn, o, none⟩ = [.pointer (some ⟨bt, 0, none⟩), .pointer (some ⟨bd, 0, none⟩), .int .i64 ep, .bool false][o]?) ∧ ∀ o, W.cell? ⟨g0, o, none⟩ = [.int .i64 c, .int .i64 nw, .int .i64 j, .int .i64 r, .int .i64 k, .int .i64 m][o]?) [6] (by kernel_rfl) (by kernel_rfl) ⟨cn, co⟩ ?_
  repeat (first | (refine LexL.none (by rfl) ?_; (try simp only [Act.put, List.setIfInBounds_toArray, List.set_cons_zero, List.set_cons_succ])) | (refine LexL.still (v := ?_) (by rfl) ?_ ?_; rotate_left; (focus (intro W hW; (try dsimp only at hW); go_simp; (try (with_reducible rfl)); done)); (try simp only [Act.put, List.setIfInBounds_toArray, List.set_cons_zero, List.set_cons_succ])))
  refine LexL.call (f := 42) (args := #[.agg #[.int .i64 ep, .int .i64 c, .int .i64 nw, .int .i64 j, .int .i64 r, .int .i64 k, .int .i64 m]]) (w1 := w4.drew) (by rfl) (by decide) (by go_simp) ?_
  refine (enc_sl ep c nw j r k m _ H4.out.drew).mono ?_
  rw [HR.out, if_pos rfl, HL.out]
  rintro e w5 ⟨v, rfl, q5, h5⟩
  obtain ⟨av, cv, rfl, hv1, hv2⟩ := h5.ownb.bytes.shape
  rw [HL9.out] at h5 hv1 ⊢
  have hKc : K ≤ cv := by omega
  have cn5 : ∀ o, w5.cell? ⟨bn, o, none⟩ = [.pointer (some ⟨bt, 0, none⟩), .pointer (some ⟨bd, 0, none⟩), .int .i64 ep, .bool false][o]? := (show BlockAt w5 bn 61 (ncells bt bd ⟨t, ep, false⟩) from h5.right.right.right.right.right.right.bl).cells
  have H5 := Lib.hid h5; have Q5 := Lib.hid (Q4.out.drew.trans q5)
  refine ⟨_, rfl, ⟨cn5, h5.right.right.right.right.right.bl.cells⟩, ?_⟩
  clear h5 q5 cn co H4 Q4 cx
  try simp only [Act.put, List.setIfInBounds_toArray, List.set_cons_zero, List.set_cons_succ]
  repeat (first | (refine LexL.none (by rfl) ?_; (try simp only [Act.put, List.setIfInBounds_toArray, List.set_cons_zero, List.set_cons_succ])) | (refine LexL.still (v := ?_) (by rfl) ?_ ?_; rotate_left; (focus (intro W hW; (try dsimp only at hW); go_simp; (try (with_reducible rfl)); done)); (try simp only [Act.put, List.setIfInBounds_toArray, List.set_cons_zero, List.set_cons_succ])))
  refine LexL.done ?_
  go_wp2_with fail
  refine wp_region_lex (fun W => ∀ o, W.cell? ⟨bn, o, none⟩ = [.pointer (some ⟨bt, 0, none⟩), .pointer (some ⟨bd, 0, none⟩), .int .i64 ep, .bool false][o]?) [15] (by kernel_rfl) (by kernel_rfl) cn5 ?_
  repeat (first | (refine LexL.none (by rfl) ?_; (try simp only [Act.put, List.setIfInBounds_toArray, List.set_cons_zero, List.set_cons_succ])) | (refine LexL.still (v := ?_) (by rfl) ?_ ?_; rotate_left; (focus (intro W hW; (try dsimp only at hW); go_simp; (try (with_reducible rfl)); done)); (try simp only [Act.put, List.setIfInBounds_toArray, List.set_cons_zero, List.set_cons_succ])))
  refine LexL.call (f := 69) (args := #[.pointer (some ⟨bd, 0, none⟩), .int .i64 ep, .slice av K cv]) (w1 := w5.drew) (by rfl) (by decide) (by go_simp) ?_
  refine (append_sl bd d ep _ (l.take K) _ (H5.out.drew.eq (by ac_rfl : _ = dsk bd d * (ownb (.slice av 9 cv) l * (bl gx 32 [.int .i64 a1, .int .i64 a2, .int .i64 a3] * (tab bt' T' * (tab bt t * (bl ga 32 [.int .i64 0, .int .i64 0, .int .i64 0] * (bl g0 28 [.int .i64 c, .int .i64 nw, .int .i64 j, .int .i64 r, .int .i64 k, .int .i64 m] * (nblk bn bt bd ⟨t, ep, false⟩ * R))))))))) HD.out (H5.out.drew.ownb.bytes.take (by rw [HL9.out]; exact hK9)) (by simp [HL9.out]; omega)).mono ?_
  rw [HAP.out]
  rintro e w6 ⟨rfl, q6, h6⟩
  have h6' : Holds w6 (bl ga 32 [.int .i64 0, .int .i64 0, .int .i64 0] * (nblk bn bt bd ⟨t, ep, false⟩ * (bl gx 32 [.int .i64 a1, .int .i64 a2, .int .i64 a3] * (tab bt' T' * (tab bt t * (dsk bd d' * R)))))) := (h6.eq (by ac_rfl : _ = ownb (.slice av 9 cv) l * (bl g0 28 [.int .i64 c, .int .i64 nw, .int .i64 j, .int .i64 r, .int .i64 k, .int .i64 m] * (bl ga 32 [.int .i64 0, .int .i64 0, .int .i64 0] * (nblk bn bt bd ⟨t, ep, false⟩ * (bl gx 32 [.int .i64 a1, .int .i64 a2, .int .i64 a3] * (tab bt' T' * (tab bt t * (dsk bd d' * R))))))))).right.right
  have H6 := Lib.hid h6'; have Q6 := Lib.hid (Q5.out.drew.trans q6)
  clear h6 h6' q6 H5 Q5 cn5 hK0 hKc hv1 hv2
  have cn : ∀ o, w6.cell? ⟨bn, o, none⟩ = [.pointer (some ⟨bt, 0, none⟩), .pointer (some ⟨bd, 0, none⟩), .int .i64 ep, .bool false][o]? := (show BlockAt w6 bn 61 (ncells bt bd ⟨t, ep, false⟩) from H6.out.right.bl).cells
  have fn := (show BlockAt w6 bn 61 (ncells bt bd ⟨t, ep, false⟩) from H6.out.right.bl).frees
  have ln := (show BlockAt w6 bn 61 (ncells bt bd ⟨t, ep, false⟩) from H6.out.right.bl).lt
  have ca := H6.out.bl.cells
  have fa := H6.out.bl.frees
  have la := H6.out.bl.lt
  have cx := H6.out.right.right.bl.cells
  have hne1 : bn ≠ gx := BlockAt.ne (show BlockAt w6 bn 61 (ncells bt bd ⟨t, ep, false⟩) from H6.out.right.bl) H6.out.right.right.bl (by decide)
  have hne2 : bn ≠ ga := BlockAt.ne (show BlockAt w6 bn 61 (ncells bt bd ⟨t, ep, false⟩) from H6.out.right.bl) H6.out.bl (by decide)
  have hne3 := Ne.symm hne1
  have hne4 := Ne.symm hne2
  refine ⟨_, rfl, cn, ?_⟩
  try simp only [Act.put, List.setIfInBounds_toArray, List.set_cons_zero, List.set_cons_succ]
  repeat (first | (refine LexL.none (by rfl) ?_; (try simp only [Act.put, List.setIfInBounds_toArray, List.set_cons_zero, List.set_cons_succ])) | (refine LexL.still (v := ?_) (by rfl) ?_ ?_; rotate_left; (focus (intro W hW; (try dsimp only at hW); go_simp; (try (with_reducible rfl)); done)); (try simp only [Act.put, List.setIfInBounds_toArray, List.set_cons_zero, List.set_cons_succ])))
  refine LexL.done ?_
  by_cases hac : ac = 0
  · subst hac
    have HY2 := Lib.hid (show (d', (⟨T', ep, false⟩ : Nod), (⟨a1, a2, a3⟩ : Ans)) = Y by rw [← HY.out, if_neg (by simp)])
    have HE := Lib.hid (H6.out.two.setB 0 (.pointer (some ⟨bt', 0, none⟩)))
    have QE := Lib.hid (Q6.out.setCell ⟨bn, 0, none⟩ (.pointer (some ⟨bt', 0, none⟩)))
    clear HY
    go_wp2
    have hf := ((HE.out.two.setB 0 (.int .i64 a1)).setB 1 (.int .i64 a2)).setB 2 (.int .i64 a3)
    have hl := run_load_part (P := Try.prog) (off := 0) (ty := 32) (vs := [.int .i64 a1, .int .i64 a2, .int .i64 a3]) hf.bl rfl Try.underlying32 rfl (by kernel_rfl)
    rw [← HY2.out]
    exact bodyPost_ret (results_cell1 rfl rfl hl) rfl ⟨rfl, ((QE.out.setCell _ _).setCell _ _).setCell _ _, .inr ⟨HCD.out, bt', hf.right.two.right⟩⟩
  · have hacb : (ac != 0) = true := by simpa using hac
    have hde : d' = d := by have := HAP.out; unfold Dsk.append at this; split at this; · simp only [Prod.mk.injEq] at this; exact this.1.symm
                            · split at this
                              · simp only [Prod.mk.injEq] at this; exact this.1.symm
                              · simp only [Prod.mk.injEq] at this; exact absurd this.2.symm hac
    have HDE := Lib.hid hde
    have HY2 := Lib.hid (show (d, (⟨t, ep, false⟩ : Nod), (⟨ac, 0, 0⟩ : Ans)) = Y by rw [← HY.out, if_pos hac])
    have HAC := Lib.hid hac
    clear HY hac hde
    go_wp2
    have hf := ((H6.out.setB 0 (.int .i64 ac)).setB 1 (.int .i64 0)).setB 2 (.int .i64 0)
    have hl := run_load_part (P := Try.prog) (off := 0) (ty := 32) (vs := [.int .i64 ac, .int .i64 0, .int .i64 0]) hf.bl rfl Try.underlying32 rfl (by kernel_rfl)
    rw [← HY2.out]
    exact bodyPost_ret (results_cell1 rfl rfl hl) rfl ⟨rfl, ((Q6.out.setCell _ _).setCell _ _).setCell _ _, .inl ⟨HAC.out, rfl, by have := hf.right; rw [HDE.out] at this; exact (this.eq (by ac_rfl : _ = (bl gx 32 [.int .i64 a1, .int .i64 a2, .int .i64 a3] * tab bt' T') * (nblk bn bt bd ⟨t, ep, false⟩ * (tab bt t * (dsk bd d * R))))).right⟩⟩
end Go.Proofs.Ytfihmpkkpgmdhac
