/-
  What the proof of DeskJoins leans on: plain definitions and laws, and contracts of functions that it reaches. No condition besides those that each theorem names.
-/
import Derived.Test.YtfihmpkkpgmdhaaGreatDoorZJe
import Derived.Test.YtfihmpkkpgmdhaaGreatDoorZJd
import Derived.Lib.MinMax
import Derived.Test.YtfihmpkkpgmdhaaGreatDoorZJb
import Derived.Deep.Cut
import Derived.Test.YtfihmpkkpgmdhaaGreatDoorZJc
import Derived.ProofKit
import Derived.OpenShut
import Derived.Deep.Slices
import Derived.Deep.Fields
import Derived.ChangeSame
import Derived.Carry
import Derived.Test.YtfihmpkkpgmdhaaGreatDoorZJa
import Derived.Shelf.GgClosure.Gives
import Derived.Lib.Builder
import Derived.Lib.AppendStr
import Derived.Lib.UnsafeStr
import Derived.Laws.Externs
/-
  The package node, walked: an order of a node.
-/
namespace Go.Proofs.YtfihmpkkpgmdhaaGreatDoor
set_option linter.unusedSimpArgs false
set_option linter.unusedVariables false
open Go.RowKit
/-- What an order of a node leaves: its table is the old one, or a new one beside it. -/
def OrdPost (w : World) (bn bt bd : Nat) (t : Tbl) (R : HP) (x : Dsk × Nod × Ans) (e : Ending) (w' : World) : Prop :=
  e = .returned x.2.2.val ∧ Quiet w w' ∧
    (x.2.2.code ≠ 0 ∧ x.2.1.t = t ∧ Holds w' (nblk bn bt bd x.2.1 * (tab bt t * (dsk bd x.1 * R))) ∨
     x.2.2.code = 0 ∧ ∃ bt' : Nat, Holds w' (nblk bn bt' bd x.2.1 * (tab bt' x.2.1.t * (tab bt t * (dsk bd x.1 * R)))))
def ncells (bt bd : Nat) (n : Nod) : List Value := [.pointer (some ⟨bt, 0, none⟩), .pointer (some ⟨bd, 0, none⟩), .int .i64 n.ep, .bool n.down]
set_option maxRecDepth 100000 in
set_option maxHeartbeats 4000000 in
theorem norder_down (bn bt bd : Nat) (d : Dsk) (t : Tbl) (ep c nw j r k m kp : Int) (w : World) {R : HP} (h : Holds w (nblk bn bt bd ⟨t, ep, true⟩ * (tab bt t * (dsk bd d * R))))  :
    Calls Tryz.prog 123 #[.pointer (some ⟨bn, 0, none⟩), .agg #[.int .i64 c, .int .i64 nw, .int .i64 j, .int .i64 r, .int .i64 k, .int .i64 m], .int .i64 kp] w (OrdPost w bn bt bd t R (d, ⟨t, ep, true⟩, ⟨10, 0, 0⟩)) := by
  obtain ⟨w0, hw0, H0, Q0⟩ : ∃ w0, (w.alloc (.cells #[.int .i64 c, .int .i64 nw, .int .i64 j, .int .i64 r, .int .i64 k, .int .i64 m] 84)).alloc (.cells #[.int .i64 0, .int .i64 0, .int .i64 0] 88) = w0 ∧ Hid (Holds w0 (bl (w.heap.size + 1) 88 [.int .i64 0, .int .i64 0, .int .i64 0] * (bl w.heap.size 84 [.int .i64 c, .int .i64 nw, .int .i64 j, .int .i64 r, .int .i64 k, .int .i64 m] * (nblk bn bt bd ⟨t, ep, true⟩ * (tab bt t * (dsk bd d * R)))))) ∧ Hid (Quiet w w0) :=
    ⟨_, rfl, Lib.hid ((h.boxB (ty := 84) (cs := [.int .i64 c, .int .i64 nw, .int .i64 j, .int .i64 r, .int .i64 k, .int .i64 m]) rfl).boxB (ty := 88) (cs := [.int .i64 0, .int .i64 0, .int .i64 0]) (g := w.heap.size + 1) (by simp)), Lib.hid (((Quiet.refl w).alloc _).alloc _)⟩
  clear h
  obtain ⟨g0, hg0⟩ : ∃ g0, w.heap.size = g0 := ⟨_, rfl⟩
  rw [hg0] at H0
  obtain ⟨ga, hga⟩ : ∃ ga, g0 + 1 = ga := ⟨_, rfl⟩
  rw [hga] at H0
  have cn := (show BlockAt w0 bn 119 (ncells bt bd ⟨t, ep, true⟩) from H0.out.three.bl).cells
  simp only [ncells] at cn
  have ca := H0.out.bl.cells
  have fa := H0.out.bl.frees
  have la := H0.out.bl.lt
  go_enter Tryz.func123, Tryz.ntmps123
  go_wp2
  have hf := ((H0.out.setB 0 (.int .i64 10)).setB 1 (.int .i64 0)).setB 2 (.int .i64 0)
  have hl := run_load_part (P := Tryz.prog) (off := 0) (ty := 88) (vs := [.int .i64 10, .int .i64 0, .int .i64 0]) hf.bl rfl Tryz.underlying88 rfl (by kernel_rfl)
  exact bodyPost_ret (results_cell1 rfl rfl hl) rfl ⟨rfl, ((Q0.out.setCell _ _).setCell _ _).setCell _ _, .inl ⟨by simp, rfl, hf.right.right⟩⟩
set_option maxRecDepth 100000 in
set_option maxHeartbeats 4000000 in
theorem norder_fenced (bn bt bd : Nat) (d : Dsk) (t : Tbl) (ep c nw j r k m kp : Int) (w : World) {R : HP} (h : Holds w (nblk bn bt bd ⟨t, ep, false⟩ * (tab bt t * (dsk bd d * R)))) (hne : ep ≠ d.ep) :
    Calls Tryz.prog 123 #[.pointer (some ⟨bn, 0, none⟩), .agg #[.int .i64 c, .int .i64 nw, .int .i64 j, .int .i64 r, .int .i64 k, .int .i64 m], .int .i64 kp] w (OrdPost w bn bt bd t R (d, ⟨t, ep, true⟩, ⟨9, 0, 0⟩)) := by
  have hne1 : (ep != d.ep) = true := by simpa using hne
  clear hne
  obtain ⟨w0, hw0, H0, Q0⟩ : ∃ w0, (w.alloc (.cells #[.int .i64 c, .int .i64 nw, .int .i64 j, .int .i64 r, .int .i64 k, .int .i64 m] 84)).alloc (.cells #[.int .i64 0, .int .i64 0, .int .i64 0] 88) = w0 ∧ Hid (Holds w0 (bl (w.heap.size + 1) 88 [.int .i64 0, .int .i64 0, .int .i64 0] * (bl w.heap.size 84 [.int .i64 c, .int .i64 nw, .int .i64 j, .int .i64 r, .int .i64 k, .int .i64 m] * (nblk bn bt bd ⟨t, ep, false⟩ * (tab bt t * (dsk bd d * R)))))) ∧ Hid (Quiet w w0) :=
    ⟨_, rfl, Lib.hid ((h.boxB (ty := 84) (cs := [.int .i64 c, .int .i64 nw, .int .i64 j, .int .i64 r, .int .i64 k, .int .i64 m]) rfl).boxB (ty := 88) (cs := [.int .i64 0, .int .i64 0, .int .i64 0]) (g := w.heap.size + 1) (by simp)), Lib.hid (((Quiet.refl w).alloc _).alloc _)⟩
  clear h
  obtain ⟨g0, hg0⟩ : ∃ g0, w.heap.size = g0 := ⟨_, rfl⟩
  rw [hg0] at H0
  obtain ⟨ga, hga⟩ : ∃ ga, g0 + 1 = ga := ⟨_, rfl⟩
  rw [hga] at H0
  have cn := (show BlockAt w0 bn 119 (ncells bt bd ⟨t, ep, false⟩) from H0.out.three.bl).cells
  simp only [ncells] at cn
  go_enter Tryz.func123, Tryz.ntmps123
  go_wp2_with fail
  clear hw0 hg0 hga
  refine wp_region_lex (fun W => ∀ o, W.cell? ⟨bn, o, none⟩ = [.pointer (some ⟨bt, 0, none⟩), .pointer (some ⟨bd, 0, none⟩), .int .i64 ep, .bool false][o]?) [8] (by kernel_rfl) (by kernel_rfl) cn ?_
  repeat (first | (refine LexL.none (by rfl) ?_; (try simp only [Act.put, List.setIfInBounds_toArray, List.set_cons_zero, List.set_cons_succ])) | (refine LexL.still (v := ?_) (by rfl) ?_ ?_; rotate_left; (focus (intro W hW; (try dsimp only at hW); go_simp; (try (with_reducible rfl)); done)); (try simp only [Act.put, List.setIfInBounds_toArray, List.set_cons_zero, List.set_cons_succ])))
  refine LexL.call (f := 51) (args := #[.pointer (some ⟨bd, 0, none⟩)]) (w1 := w0.drew) (by rfl) (by decide) (by go_simp) ?_
  refine (depoch_sl bd d _ (H0.out.drew.eq (by ac_rfl : _ = dsk bd d * (bl ga 88 [.int .i64 0, .int .i64 0, .int .i64 0] * (bl g0 84 [.int .i64 c, .int .i64 nw, .int .i64 j, .int .i64 r, .int .i64 k, .int .i64 m] * (nblk bn bt bd ⟨t, ep, false⟩ * (tab bt t * R))))))).mono ?_
  rintro e w1 ⟨rfl, rfl⟩
  refine ⟨_, rfl, cn, ?_⟩
  try simp only [Act.put, List.setIfInBounds_toArray, List.set_cons_zero, List.set_cons_succ]
  repeat (first | (refine LexL.none (by rfl) ?_; (try simp only [Act.put, List.setIfInBounds_toArray, List.set_cons_zero, List.set_cons_succ])) | (refine LexL.still (v := ?_) (by rfl) ?_ ?_; rotate_left; (focus (intro W hW; (try dsimp only at hW); go_simp; (try (with_reducible rfl)); done)); (try simp only [Act.put, List.setIfInBounds_toArray, List.set_cons_zero, List.set_cons_succ])))
  refine LexL.done ?_
  have hd1 := H0.out.drew
  have qd1 := Q0.out.drew
  obtain ⟨w1, hw1⟩ : ∃ w1, w0.drew = w1 := ⟨_, rfl⟩
  rw [hw1] at hd1 qd1 ⊢
  have H1 := Lib.hid hd1; have Q1 := Lib.hid qd1
  clear hw1 hd1 qd1 cn H0 Q0
  have cn := (show BlockAt w1 bn 119 (ncells bt bd ⟨t, ep, false⟩) from H1.out.three.bl).cells
  simp only [ncells] at cn
  have fn := (show BlockAt w1 bn 119 (ncells bt bd ⟨t, ep, false⟩) from H1.out.three.bl).frees
  have ln := (show BlockAt w1 bn 119 (ncells bt bd ⟨t, ep, false⟩) from H1.out.three.bl).lt
  have ca := H1.out.bl.cells
  have fa := H1.out.bl.frees
  have la := H1.out.bl.lt
  go_wp2
  have hf := (((H1.out.three.setB 3 (.bool true)).two.setB 0 (.int .i64 9)).setB 1 (.int .i64 0)).setB 2 (.int .i64 0)
  have hl := run_load_part (P := Tryz.prog) (off := 0) (ty := 88) (vs := [.int .i64 9, .int .i64 0, .int .i64 0]) hf.bl rfl Tryz.underlying88 rfl (by kernel_rfl)
  exact bodyPost_ret (results_cell1 rfl rfl hl) rfl ⟨rfl, (((Q1.out.setCell _ _).setCell _ _).setCell _ _).setCell _ _, .inl ⟨by simp, rfl, hf.right.two.right⟩⟩
set_option maxRecDepth 100000 in
set_option maxHeartbeats 4000000 in
theorem norder_refused (bn bt bd : Nat) (d : Dsk) (t : Tbl) (ep c nw j r k m kp : Int) (w : World) {R : HP} (h : Holds w (nblk bn bt bd ⟨t, ep, false⟩ * (tab bt t * (dsk bd d * R)))) (hok : t.Ok) (he : ep = d.ep) (hcd : (t.did ⟨c, nw, j, r, k, m⟩).2.code ≠ 0) :
    Calls Tryz.prog 123 #[.pointer (some ⟨bn, 0, none⟩), .agg #[.int .i64 c, .int .i64 nw, .int .i64 j, .int .i64 r, .int .i64 k, .int .i64 m], .int .i64 kp] w (OrdPost w bn bt bd t R (d, ⟨t, ep, false⟩, (t.did ⟨c, nw, j, r, k, m⟩).2)) := by
  obtain ⟨⟨T', ⟨a1, a2, a3⟩⟩, hX⟩ : ∃ X, t.did ⟨c, nw, j, r, k, m⟩ = X := ⟨_, rfl⟩
  rw [hX] at hcd ⊢
  dsimp only at hcd
  have hcd1 : (a1 != 0) = true := by simpa using hcd
  have hee : (ep != d.ep) = false := by simpa using he
  have HX := Lib.hid hX; have HOK := Lib.hid hok; have HCD := Lib.hid hcd; clear hX hok hcd he
  obtain ⟨w0, hw0, H0, Q0⟩ : ∃ w0, (w.alloc (.cells #[.int .i64 c, .int .i64 nw, .int .i64 j, .int .i64 r, .int .i64 k, .int .i64 m] 84)).alloc (.cells #[.int .i64 0, .int .i64 0, .int .i64 0] 88) = w0 ∧ Hid (Holds w0 (bl (w.heap.size + 1) 88 [.int .i64 0, .int .i64 0, .int .i64 0] * (bl w.heap.size 84 [.int .i64 c, .int .i64 nw, .int .i64 j, .int .i64 r, .int .i64 k, .int .i64 m] * (nblk bn bt bd ⟨t, ep, false⟩ * (tab bt t * (dsk bd d * R)))))) ∧ Hid (Quiet w w0) :=
    ⟨_, rfl, Lib.hid ((h.boxB (ty := 84) (cs := [.int .i64 c, .int .i64 nw, .int .i64 j, .int .i64 r, .int .i64 k, .int .i64 m]) rfl).boxB (ty := 88) (cs := [.int .i64 0, .int .i64 0, .int .i64 0]) (g := w.heap.size + 1) (by simp)), Lib.hid (((Quiet.refl w).alloc _).alloc _)⟩
  clear h
  obtain ⟨g0, hg0⟩ : ∃ g0, w.heap.size = g0 := ⟨_, rfl⟩
  rw [hg0] at H0
  obtain ⟨ga, hga⟩ : ∃ ga, g0 + 1 = ga := ⟨_, rfl⟩
  rw [hga] at H0
  have cn := (show BlockAt w0 bn 119 (ncells bt bd ⟨t, ep, false⟩) from H0.out.three.bl).cells
  simp only [ncells] at cn
  go_enter Tryz.func123, Tryz.ntmps123
  go_wp2_with fail
  clear hw0 hg0 hga
  refine wp_region_lex (fun W => ∀ o, W.cell? ⟨bn, o, none⟩ = [.pointer (some ⟨bt, 0, none⟩), .pointer (some ⟨bd, 0, none⟩), .int .i64 ep, .bool false][o]?) [8] (by kernel_rfl) (by kernel_rfl) cn ?_
  repeat (first | (refine LexL.none (by rfl) ?_; (try simp only [Act.put, List.setIfInBounds_toArray, List.set_cons_zero, List.set_cons_succ])) | (refine LexL.still (v := ?_) (by rfl) ?_ ?_; rotate_left; (focus (intro W hW; (try dsimp only at hW); go_simp; (try (with_reducible rfl)); done)); (try simp only [Act.put, List.setIfInBounds_toArray, List.set_cons_zero, List.set_cons_succ])))
  refine LexL.call (f := 51) (args := #[.pointer (some ⟨bd, 0, none⟩)]) (w1 := w0.drew) (by rfl) (by decide) (by go_simp) ?_
  refine (depoch_sl bd d _ (H0.out.drew.eq (by ac_rfl : _ = dsk bd d * (bl ga 88 [.int .i64 0, .int .i64 0, .int .i64 0] * (bl g0 84 [.int .i64 c, .int .i64 nw, .int .i64 j, .int .i64 r, .int .i64 k, .int .i64 m] * (nblk bn bt bd ⟨t, ep, false⟩ * (tab bt t * R))))))).mono ?_
  rintro e w1 ⟨rfl, rfl⟩
  refine ⟨_, rfl, cn, ?_⟩
  try simp only [Act.put, List.setIfInBounds_toArray, List.set_cons_zero, List.set_cons_succ]
  repeat (first | (refine LexL.none (by rfl) ?_; (try simp only [Act.put, List.setIfInBounds_toArray, List.set_cons_zero, List.set_cons_succ])) | (refine LexL.still (v := ?_) (by rfl) ?_ ?_; rotate_left; (focus (intro W hW; (try dsimp only at hW); go_simp; (try (with_reducible rfl)); done)); (try simp only [Act.put, List.setIfInBounds_toArray, List.set_cons_zero, List.set_cons_succ])))
  refine LexL.done ?_
  have hd1 := H0.out.drew
  have qd1 := Q0.out.drew
  obtain ⟨w1, hw1⟩ : ∃ w1, w0.drew = w1 := ⟨_, rfl⟩
  rw [hw1] at hd1 qd1 ⊢
  have H1 := Lib.hid hd1; have Q1 := Lib.hid qd1
  clear hw1 hd1 qd1 cn H0 Q0
  have cn := (show BlockAt w1 bn 119 (ncells bt bd ⟨t, ep, false⟩) from H1.out.three.bl).cells
  simp only [ncells] at cn
  go_wp2_with fail
  refine (own_sl bt t _ (H1.out.eq (by ac_rfl : _ = tab bt t * (bl ga 88 [.int .i64 0, .int .i64 0, .int .i64 0] * (bl g0 84 [.int .i64 c, .int .i64 nw, .int .i64 j, .int .i64 r, .int .i64 k, .int .i64 m] * (nblk bn bt bd ⟨t, ep, false⟩ * (dsk bd d * R))))))).mono ?_
  rintro e w2 ⟨bt', rfl, q2, h2⟩
  have H2 := Lib.hid h2; have Q2 := Lib.hid (Q1.out.trans q2); clear h2 q2 H1 Q1
  go_wp2_with (refine wpList_load_whole rfl 84 _ rfl g0 rfl [.int .i64 c, .int .i64 nw, .int .i64 j, .int .i64 r, .int .i64 k, .int .i64 m] (H2.out.right.three.bl) Tryz.underlying84 rfl (by kernel_rfl) ?_)
  refine (do_sl bt' t c nw j r k m _ H2.out HOK.out).mono ?_
  rw [HX.out]
  rintro e w3 ⟨rfl, q3, h3⟩
  have h4 := h3.boxB (ty := 88) (cs := [.int .i64 a1, .int .i64 a2, .int .i64 a3]) rfl
  have q4 := (Q2.out.trans q3).alloc (.cells ([.int .i64 a1, .int .i64 a2, .int .i64 a3] : List Value).toArray 88)
  obtain ⟨w4, hw4⟩ : ∃ w4, w3.alloc (.cells #[.int .i64 a1, .int .i64 a2, .int .i64 a3] 88) = w4 := ⟨_, rfl⟩
  obtain ⟨gx, hgx⟩ : ∃ gx, w3.heap.size = gx := ⟨_, rfl⟩
  have h4' : Holds w4 (bl gx 88 [.int .i64 a1, .int .i64 a2, .int .i64 a3] * (tab bt' T' * (tab bt t * (bl ga 88 [.int .i64 0, .int .i64 0, .int .i64 0] * (bl g0 84 [.int .i64 c, .int .i64 nw, .int .i64 j, .int .i64 r, .int .i64 k, .int .i64 m] * (nblk bn bt bd ⟨t, ep, false⟩ * (dsk bd d * R))))))) := by rw [← hw4, ← hgx]; exact h4
  have q4' : Quiet w w4 := by rw [← hw4]; exact q4
  have H4 := Lib.hid h4'; have Q4 := Lib.hid q4'
  have cx := H4.out.bl.cells
  clear h3 q3 h4 q4 h4' q4' H2 Q2 cn
  have ca := H4.out.four.bl.cells
  have fa := H4.out.four.bl.frees
  have la := H4.out.four.bl.lt
  go_wp2
  have hf := ((H4.out.four.setB 0 (.int .i64 a1)).setB 1 (.int .i64 a2)).setB 2 (.int .i64 a3)
  have hl := run_load_part (P := Tryz.prog) (off := 0) (ty := 88) (vs := [.int .i64 a1, .int .i64 a2, .int .i64 a3]) hf.bl rfl Tryz.underlying88 rfl (by kernel_rfl)
  exact bodyPost_ret (results_cell1 rfl rfl hl) rfl ⟨rfl, ((Q4.out.setCell _ _).setCell _ _).setCell _ _, .inl ⟨HCD.out, rfl, ((hf.right.right.right.eq (by ac_rfl : _ = bl g0 84 [.int .i64 c, .int .i64 nw, .int .i64 j, .int .i64 r, .int .i64 k, .int .i64 m] * (nblk bn bt bd ⟨t, ep, false⟩ * (tab bt t * (dsk bd d * R))))).right)⟩⟩
set_option maxRecDepth 100000 in
set_option maxHeartbeats 4000000 in
theorem norder_wrote (bn bt bd : Nat) (d : Dsk) (t : Tbl) (ep c nw j r k m kp : Int) (w : World) {R : HP} (h : Holds w (nblk bn bt bd ⟨t, ep, false⟩ * (tab bt t * (dsk bd d * R)))) (hd : d.Ok) (hok : t.Ok) (he : ep = d.ep) (hcd : (t.did ⟨c, nw, j, r, k, m⟩).2.code = 0) (hr : chkR ⟨ep, ⟨c, nw, j, r, k, m⟩⟩ = 0) :
    Calls Tryz.prog 123 #[.pointer (some ⟨bn, 0, none⟩), .agg #[.int .i64 c, .int .i64 nw, .int .i64 j, .int .i64 r, .int .i64 k, .int .i64 m], .int .i64 kp] w (OrdPost w bn bt bd t R (if (d.append ep ((encB ⟨ep, ⟨c, nw, j, r, k, m⟩⟩).take (keepN kp))).2 ≠ 0 then (d, ⟨t, ep, false⟩, ⟨(d.append ep ((encB ⟨ep, ⟨c, nw, j, r, k, m⟩⟩).take (keepN kp))).2, 0, 0⟩) else ((d.append ep ((encB ⟨ep, ⟨c, nw, j, r, k, m⟩⟩).take (keepN kp))).1, ⟨(t.did ⟨c, nw, j, r, k, m⟩).1, ep, false⟩, (t.did ⟨c, nw, j, r, k, m⟩).2))) := by
  obtain ⟨⟨T', ⟨a1, a2, a3⟩⟩, hX⟩ : ∃ X, t.did ⟨c, nw, j, r, k, m⟩ = X := ⟨_, rfl⟩
  rw [hX] at hcd ⊢
  dsimp only at hcd
  have hcd1 : (a1 != 0) = false := by simpa using hcd
  have hee : (ep != d.ep) = false := by simpa using he
  obtain ⟨l, hl⟩ : ∃ l, encB ⟨ep, ⟨c, nw, j, r, k, m⟩⟩ = l := ⟨_, rfl⟩
  have hl9 : l.length = 9 := by rw [← hl, encB_len]
  obtain ⟨⟨d', ac⟩, hap⟩ : ∃ Y, d.append ep (l.take (keepN kp)) = Y := ⟨_, rfl⟩
  rw [hl, hap]
  obtain ⟨K, hK⟩ : ∃ K, keepN kp = K := ⟨_, rfl⟩
  rw [hK] at hap
  have hK0 : min (max kp 0) 9 = (K : Int) := by rw [← hK]; unfold keepN; omega
  have hK9 : K ≤ 9 := by rw [← hK]; unfold keepN; omega
  clear hK
  obtain ⟨Y, hY⟩ : ∃ Y, (if (d', ac).2 ≠ 0 then (d, (⟨t, ep, false⟩ : Nod), (⟨(d', ac).2, 0, 0⟩ : Ans)) else ((d', ac).1, ⟨T', ep, false⟩, ⟨a1, a2, a3⟩)) = Y := ⟨_, rfl⟩
  rw [hY]
  dsimp only at hY
  have HY := Lib.hid hY; clear hY
  have HX := Lib.hid hX; have HOK := Lib.hid hok; have HCD := Lib.hid hcd; have HR := Lib.hid hr; have HL := Lib.hid hl; have HL9 := Lib.hid hl9; have HAP := Lib.hid hap; have HD := Lib.hid hd
  clear hX hok hcd he hr hl hl9 hap hd
  obtain ⟨w0, hw0, H0, Q0⟩ : ∃ w0, (w.alloc (.cells #[.int .i64 c, .int .i64 nw, .int .i64 j, .int .i64 r, .int .i64 k, .int .i64 m] 84)).alloc (.cells #[.int .i64 0, .int .i64 0, .int .i64 0] 88) = w0 ∧ Hid (Holds w0 (bl (w.heap.size + 1) 88 [.int .i64 0, .int .i64 0, .int .i64 0] * (bl w.heap.size 84 [.int .i64 c, .int .i64 nw, .int .i64 j, .int .i64 r, .int .i64 k, .int .i64 m] * (nblk bn bt bd ⟨t, ep, false⟩ * (tab bt t * (dsk bd d * R)))))) ∧ Hid (Quiet w w0) :=
    ⟨_, rfl, Lib.hid ((h.boxB (ty := 84) (cs := [.int .i64 c, .int .i64 nw, .int .i64 j, .int .i64 r, .int .i64 k, .int .i64 m]) rfl).boxB (ty := 88) (cs := [.int .i64 0, .int .i64 0, .int .i64 0]) (g := w.heap.size + 1) (by simp)), Lib.hid (((Quiet.refl w).alloc _).alloc _)⟩
  clear h
  obtain ⟨g0, hg0⟩ : ∃ g0, w.heap.size = g0 := ⟨_, rfl⟩
  rw [hg0] at H0
  obtain ⟨ga, hga⟩ : ∃ ga, g0 + 1 = ga := ⟨_, rfl⟩
  rw [hga] at H0
  have cn := (show BlockAt w0 bn 119 (ncells bt bd ⟨t, ep, false⟩) from H0.out.three.bl).cells
  simp only [ncells] at cn
  go_enter Tryz.func123, Tryz.ntmps123
  go_wp2_with fail
  clear hw0 hg0 hga
  refine wp_region_lex (fun W => ∀ o, W.cell? ⟨bn, o, none⟩ = [.pointer (some ⟨bt, 0, none⟩), .pointer (some ⟨bd, 0, none⟩), .int .i64 ep, .bool false][o]?) [8] (by kernel_rfl) (by kernel_rfl) cn ?_
  repeat (first | (refine LexL.none (by rfl) ?_; (try simp only [Act.put, List.setIfInBounds_toArray, List.set_cons_zero, List.set_cons_succ])) | (refine LexL.still (v := ?_) (by rfl) ?_ ?_; rotate_left; (focus (intro W hW; (try dsimp only at hW); go_simp; (try (with_reducible rfl)); done)); (try simp only [Act.put, List.setIfInBounds_toArray, List.set_cons_zero, List.set_cons_succ])))
  refine LexL.call (f := 51) (args := #[.pointer (some ⟨bd, 0, none⟩)]) (w1 := w0.drew) (by rfl) (by decide) (by go_simp) ?_
  refine (depoch_sl bd d _ (H0.out.drew.eq (by ac_rfl : _ = dsk bd d * (bl ga 88 [.int .i64 0, .int .i64 0, .int .i64 0] * (bl g0 84 [.int .i64 c, .int .i64 nw, .int .i64 j, .int .i64 r, .int .i64 k, .int .i64 m] * (nblk bn bt bd ⟨t, ep, false⟩ * (tab bt t * R))))))).mono ?_
  rintro e w1 ⟨rfl, rfl⟩
  refine ⟨_, rfl, cn, ?_⟩
  try simp only [Act.put, List.setIfInBounds_toArray, List.set_cons_zero, List.set_cons_succ]
  repeat (first | (refine LexL.none (by rfl) ?_; (try simp only [Act.put, List.setIfInBounds_toArray, List.set_cons_zero, List.set_cons_succ])) | (refine LexL.still (v := ?_) (by rfl) ?_ ?_; rotate_left; (focus (intro W hW; (try dsimp only at hW); go_simp; (try (with_reducible rfl)); done)); (try simp only [Act.put, List.setIfInBounds_toArray, List.set_cons_zero, List.set_cons_succ])))
  refine LexL.done ?_
  have hd1 := H0.out.drew
  have qd1 := Q0.out.drew
  obtain ⟨w1, hw1⟩ : ∃ w1, w0.drew = w1 := ⟨_, rfl⟩
  rw [hw1] at hd1 qd1 ⊢
  have H1 := Lib.hid hd1; have Q1 := Lib.hid qd1
  clear hw1 hd1 qd1 cn H0 Q0
  have cn := (show BlockAt w1 bn 119 (ncells bt bd ⟨t, ep, false⟩) from H1.out.three.bl).cells
  simp only [ncells] at cn
  go_wp2_with fail
  refine (own_sl bt t _ (H1.out.eq (by ac_rfl : _ = tab bt t * (bl ga 88 [.int .i64 0, .int .i64 0, .int .i64 0] * (bl g0 84 [.int .i64 c, .int .i64 nw, .int .i64 j, .int .i64 r, .int .i64 k, .int .i64 m] * (nblk bn bt bd ⟨t, ep, false⟩ * (dsk bd d * R))))))).mono ?_
  rintro e w2 ⟨bt', rfl, q2, h2⟩
  have H2 := Lib.hid h2; have Q2 := Lib.hid (Q1.out.trans q2); clear h2 q2 H1 Q1
  go_wp2_with (refine wpList_load_whole rfl 84 _ rfl g0 rfl [.int .i64 c, .int .i64 nw, .int .i64 j, .int .i64 r, .int .i64 k, .int .i64 m] (H2.out.right.three.bl) Tryz.underlying84 rfl (by kernel_rfl) ?_)
  refine (do_sl bt' t c nw j r k m _ H2.out HOK.out).mono ?_
  rw [HX.out]
  rintro e w3 ⟨rfl, q3, h3⟩
  have h4 := h3.boxB (ty := 88) (cs := [.int .i64 a1, .int .i64 a2, .int .i64 a3]) rfl
  have q4 := (Q2.out.trans q3).alloc (.cells ([.int .i64 a1, .int .i64 a2, .int .i64 a3] : List Value).toArray 88)
  obtain ⟨w4, hw4⟩ : ∃ w4, w3.alloc (.cells #[.int .i64 a1, .int .i64 a2, .int .i64 a3] 88) = w4 := ⟨_, rfl⟩
  obtain ⟨gx, hgx⟩ : ∃ gx, w3.heap.size = gx := ⟨_, rfl⟩
  have h4' : Holds w4 (bl gx 88 [.int .i64 a1, .int .i64 a2, .int .i64 a3] * (tab bt' T' * (tab bt t * (bl ga 88 [.int .i64 0, .int .i64 0, .int .i64 0] * (bl g0 84 [.int .i64 c, .int .i64 nw, .int .i64 j, .int .i64 r, .int .i64 k, .int .i64 m] * (nblk bn bt bd ⟨t, ep, false⟩ * (dsk bd d * R))))))) := by rw [← hw4, ← hgx]; exact h4
  have q4' : Quiet w w4 := by rw [← hw4]; exact q4
  have H4 := Lib.hid h4'; have Q4 := Lib.hid q4'
  have cx := H4.out.bl.cells
  clear h3 q3 h4 q4 h4' q4' H2 Q2 cn
  go_wp2_with fail
  clear hw4 hgx
  have cn : ∀ o, w4.cell? ⟨bn, o, none⟩ = [.pointer (some ⟨bt, 0, none⟩), .pointer (some ⟨bd, 0, none⟩), .int .i64 ep, .bool false][o]? := (show BlockAt w4 bn 119 (ncells bt bd ⟨t, ep, false⟩) from H4.out.right.right.right.right.right.bl).cells
  have co := H4.out.right.right.right.right.bl.cells
  refine wp_region_lex (fun W => (∀ o, W.cell? ⟨bn, o, none⟩ = [.pointer (some ⟨bt, 0, none⟩), .pointer (some ⟨bd, 0, none⟩), .int .i64 ep, .bool false][o]?) ∧ ∀ o, W.cell? ⟨g0, o, none⟩ = [.int .i64 c, .int .i64 nw, .int .i64 j, .int .i64 r, .int .i64 k, .int .i64 m][o]?) [6] (by kernel_rfl) (by kernel_rfl) ⟨cn, co⟩ ?_
  repeat (first | (refine LexL.none (by rfl) ?_; (try simp only [Act.put, List.setIfInBounds_toArray, List.set_cons_zero, List.set_cons_succ])) | (refine LexL.still (v := ?_) (by rfl) ?_ ?_; rotate_left; (focus (intro W hW; (try dsimp only at hW); go_simp; (try (with_reducible rfl)); done)); (try simp only [Act.put, List.setIfInBounds_toArray, List.set_cons_zero, List.set_cons_succ])))
  refine LexL.call (f := 136) (args := #[.agg #[.int .i64 ep, .int .i64 c, .int .i64 nw, .int .i64 j, .int .i64 r, .int .i64 k, .int .i64 m]]) (w1 := w4.drew) (by rfl) (by decide) (by go_simp) ?_
  refine (enc_sl ep c nw j r k m _ H4.out.drew).mono ?_
  rw [HR.out, if_pos rfl, HL.out]
  rintro e w5 ⟨v, rfl, q5, h5⟩
  obtain ⟨av, cv, rfl, hv1, hv2⟩ := h5.ownb.bytes.shape
  rw [HL9.out] at h5 hv1 ⊢
  have hKc : K ≤ cv := by omega
  have cn5 : ∀ o, w5.cell? ⟨bn, o, none⟩ = [.pointer (some ⟨bt, 0, none⟩), .pointer (some ⟨bd, 0, none⟩), .int .i64 ep, .bool false][o]? := (show BlockAt w5 bn 119 (ncells bt bd ⟨t, ep, false⟩) from h5.right.right.right.right.right.right.bl).cells
  have H5 := Lib.hid h5; have Q5 := Lib.hid (Q4.out.drew.trans q5)
  refine ⟨_, rfl, ⟨cn5, h5.right.right.right.right.right.bl.cells⟩, ?_⟩
  clear h5 q5 cn co H4 Q4 cx
  try simp only [Act.put, List.setIfInBounds_toArray, List.set_cons_zero, List.set_cons_succ]
  repeat (first | (refine LexL.none (by rfl) ?_; (try simp only [Act.put, List.setIfInBounds_toArray, List.set_cons_zero, List.set_cons_succ])) | (refine LexL.still (v := ?_) (by rfl) ?_ ?_; rotate_left; (focus (intro W hW; (try dsimp only at hW); go_simp; (try (with_reducible rfl)); done)); (try simp only [Act.put, List.setIfInBounds_toArray, List.set_cons_zero, List.set_cons_succ])))
  refine LexL.done ?_
  go_wp2_with fail
  refine wp_region_lex (fun W => ∀ o, W.cell? ⟨bn, o, none⟩ = [.pointer (some ⟨bt, 0, none⟩), .pointer (some ⟨bd, 0, none⟩), .int .i64 ep, .bool false][o]?) [15] (by kernel_rfl) (by kernel_rfl) cn5 ?_
  repeat (first | (refine LexL.none (by rfl) ?_; (try simp only [Act.put, List.setIfInBounds_toArray, List.set_cons_zero, List.set_cons_succ])) | (refine LexL.still (v := ?_) (by rfl) ?_ ?_; rotate_left; (focus (intro W hW; (try dsimp only at hW); go_simp; (try (with_reducible rfl)); done)); (try simp only [Act.put, List.setIfInBounds_toArray, List.set_cons_zero, List.set_cons_succ])))
  refine LexL.call (f := 137) (args := #[.pointer (some ⟨bd, 0, none⟩), .int .i64 ep, .slice av K cv]) (w1 := w5.drew) (by rfl) (by decide) (by go_simp) ?_
  refine (append_sl bd d ep _ (l.take K) _ (H5.out.drew.eq (by ac_rfl : _ = dsk bd d * (ownb (.slice av 9 cv) l * (bl gx 88 [.int .i64 a1, .int .i64 a2, .int .i64 a3] * (tab bt' T' * (tab bt t * (bl ga 88 [.int .i64 0, .int .i64 0, .int .i64 0] * (bl g0 84 [.int .i64 c, .int .i64 nw, .int .i64 j, .int .i64 r, .int .i64 k, .int .i64 m] * (nblk bn bt bd ⟨t, ep, false⟩ * R))))))))) HD.out (H5.out.drew.ownb.bytes.take (by rw [HL9.out]; exact hK9)) (by simp [HL9.out]; omega)).mono ?_
  rw [HAP.out]
  rintro e w6 ⟨rfl, q6, h6⟩
  have h6' : Holds w6 (bl ga 88 [.int .i64 0, .int .i64 0, .int .i64 0] * (nblk bn bt bd ⟨t, ep, false⟩ * (bl gx 88 [.int .i64 a1, .int .i64 a2, .int .i64 a3] * (tab bt' T' * (tab bt t * (dsk bd d' * R)))))) := (h6.eq (by ac_rfl : _ = ownb (.slice av 9 cv) l * (bl g0 84 [.int .i64 c, .int .i64 nw, .int .i64 j, .int .i64 r, .int .i64 k, .int .i64 m] * (bl ga 88 [.int .i64 0, .int .i64 0, .int .i64 0] * (nblk bn bt bd ⟨t, ep, false⟩ * (bl gx 88 [.int .i64 a1, .int .i64 a2, .int .i64 a3] * (tab bt' T' * (tab bt t * (dsk bd d' * R))))))))).right.right
  have H6 := Lib.hid h6'; have Q6 := Lib.hid (Q5.out.drew.trans q6)
  clear h6 h6' q6 H5 Q5 cn5 hK0 hKc hv1 hv2
  have cn : ∀ o, w6.cell? ⟨bn, o, none⟩ = [.pointer (some ⟨bt, 0, none⟩), .pointer (some ⟨bd, 0, none⟩), .int .i64 ep, .bool false][o]? := (show BlockAt w6 bn 119 (ncells bt bd ⟨t, ep, false⟩) from H6.out.right.bl).cells
  have fn := (show BlockAt w6 bn 119 (ncells bt bd ⟨t, ep, false⟩) from H6.out.right.bl).frees
  have ln := (show BlockAt w6 bn 119 (ncells bt bd ⟨t, ep, false⟩) from H6.out.right.bl).lt
  have ca := H6.out.bl.cells
  have fa := H6.out.bl.frees
  have la := H6.out.bl.lt
  have cx := H6.out.right.right.bl.cells
  have hne1 : bn ≠ gx := BlockAt.ne (show BlockAt w6 bn 119 (ncells bt bd ⟨t, ep, false⟩) from H6.out.right.bl) H6.out.right.right.bl (by decide)
  have hne2 : bn ≠ ga := BlockAt.ne (show BlockAt w6 bn 119 (ncells bt bd ⟨t, ep, false⟩) from H6.out.right.bl) H6.out.bl (by decide)
  have hne3 := Ne.symm hne1
  have hne4 := Ne.symm hne2
  refine ⟨_, rfl, cn, ?_⟩
  try simp only [Act.put, List.setIfInBounds_toArray, List.set_cons_zero, List.set_cons_succ]
  repeat (first | (refine LexL.none (by rfl) ?_; (try simp only [Act.put, List.setIfInBounds_toArray, List.set_cons_zero, List.set_cons_succ])) | (refine LexL.still (v := ?_) (by rfl) ?_ ?_; rotate_left; (focus (intro W hW; (try dsimp only at hW); go_simp; (try (with_reducible rfl)); done)); (try simp only [Act.put, List.setIfInBounds_toArray, List.set_cons_zero, List.set_cons_succ])))
  refine LexL.done ?_
  by_cases hac : ac = 0
  · subst hac
    have HY2 := Lib.hid (show (d', (⟨T', ep, false⟩ : Nod), (⟨a1, a2, a3⟩ : Ans)) = Y by rw [← HY.out, if_neg (by simp)])
    have HE := Lib.hid (H6.out.two.setB 0 (.pointer (some ⟨bt', 0, none⟩)))
    have QE := Lib.hid (Q6.out.setCell ⟨bn, 0, none⟩ (.pointer (some ⟨bt', 0, none⟩)))
    clear HY
    go_wp2
    have hf := ((HE.out.two.setB 0 (.int .i64 a1)).setB 1 (.int .i64 a2)).setB 2 (.int .i64 a3)
    have hl := run_load_part (P := Tryz.prog) (off := 0) (ty := 88) (vs := [.int .i64 a1, .int .i64 a2, .int .i64 a3]) hf.bl rfl Tryz.underlying88 rfl (by kernel_rfl)
    rw [← HY2.out]
    exact bodyPost_ret (results_cell1 rfl rfl hl) rfl ⟨rfl, ((QE.out.setCell _ _).setCell _ _).setCell _ _, .inr ⟨HCD.out, bt', hf.right.two.right⟩⟩
  · have hacb : (ac != 0) = true := by simpa using hac
    have hde : d' = d := by have := HAP.out; unfold Dsk.append at this; split at this; · simp only [Prod.mk.injEq] at this; exact this.1.symm
                            · split at this
                              · simp only [Prod.mk.injEq] at this; exact this.1.symm
                              · simp only [Prod.mk.injEq] at this; exact absurd this.2.symm hac
    have HDE := Lib.hid hde
    have HY2 := Lib.hid (show (d, (⟨t, ep, false⟩ : Nod), (⟨ac, 0, 0⟩ : Ans)) = Y by rw [← HY.out, if_pos hac])
    have HAC := Lib.hid hac
    clear HY hac hde
    go_wp2
    have hf := ((H6.out.setB 0 (.int .i64 ac)).setB 1 (.int .i64 0)).setB 2 (.int .i64 0)
    have hl := run_load_part (P := Tryz.prog) (off := 0) (ty := 88) (vs := [.int .i64 ac, .int .i64 0, .int .i64 0]) hf.bl rfl Tryz.underlying88 rfl (by kernel_rfl)
    rw [← HY2.out]
    exact bodyPost_ret (results_cell1 rfl rfl hl) rfl ⟨rfl, ((Q6.out.setCell _ _).setCell _ _).setCell _ _, .inl ⟨HAC.out, rfl, by have := hf.right; rw [HDE.out] at this; exact (this.eq (by ac_rfl : _ = (bl gx 88 [.int .i64 a1, .int .i64 a2, .int .i64 a3] * tab bt' T') * (nblk bn bt bd ⟨t, ep, false⟩ * (tab bt t * (dsk bd d * R))))).right⟩⟩
end Go.Proofs.YtfihmpkkpgmdhaaGreatDoor

/-
  The package node, walked: Order, Tear, Stop, Down, Epoch.
-/
namespace Go.Proofs.YtfihmpkkpgmdhaaGreatDoor
set_option linter.unusedSimpArgs false
set_option linter.unusedVariables false
open Go.RowKit
theorem did_chk {t : Tbl} {o : Ord} (h : (t.did o).2.code = 0) : chk o = 0 := by
  rcases did_shape t o with ⟨e, _⟩ | ⟨h, _⟩
  · exact absurd h e
  · exact h
theorem norder_sl (bn bt bd : Nat) (d : Dsk) (n : Nod) (c nw j r k m kp : Int) (w : World) {R : HP} (h : Holds w (nblk bn bt bd n * (tab bt n.t * (dsk bd d * R)))) (hd : d.Ok) (he : 1 ≤ n.ep) (hok : n.t.Ok) :
    Calls Tryz.prog 123 #[.pointer (some ⟨bn, 0, none⟩), .agg #[.int .i64 c, .int .i64 nw, .int .i64 j, .int .i64 r, .int .i64 k, .int .i64 m], .int .i64 kp] w (OrdPost w bn bt bd n.t R (n.order d ⟨c, nw, j, r, k, m⟩ (keepN kp))) := by
  obtain ⟨t, ep, dn⟩ := n
  cases dn with
  | true =>
    have := norder_down bn bt bd d t ep c nw j r k m kp w h
    unfold Nod.order
    rw [if_pos rfl]
    exact this
  | false =>
    unfold Nod.order
    rw [if_neg (by simp)]
    dsimp only at he hok ⊢
    by_cases hne : ep = d.ep
    · rw [if_neg (by simpa using hne)]
      by_cases hc : (t.did ⟨c, nw, j, r, k, m⟩).2.code = 0
      · rw [if_neg (by simpa using hc)]
        have h1 := hd.ep
        exact norder_wrote bn bt bd d t ep c nw j r k m kp w h hd hok hne hc (by unfold chkR; rw [if_neg (by dsimp only; omega)]; exact did_chk hc)
      · rw [if_pos hc]
        exact norder_refused bn bt bd d t ep c nw j r k m kp w h hok hne hc
    · rw [if_pos hne]
      exact norder_fenced bn bt bd d t ep c nw j r k m kp w h hne
set_option maxRecDepth 100000 in
set_option maxHeartbeats 4000000 in
theorem nOrder_sl (bn bd : Nat) (d : Dsk) (n : Nod) (c nw j r k m : Int) (w : World) {R : HP} (h : Holds w (nod bn bd n * (dsk bd d * R))) (hd : d.Ok) (he : 1 ≤ n.ep) (hok : n.t.Ok) :
    Calls Tryz.prog 103 #[.pointer (some ⟨bn, 0, none⟩), .agg #[.int .i64 c, .int .i64 nw, .int .i64 j, .int .i64 r, .int .i64 k, .int .i64 m]] w
      (Post w (dsk bd (n.order d ⟨c, nw, j, r, k, m⟩ 9).1 * R) (n.order d ⟨c, nw, j, r, k, m⟩ 9).2.2.val (nod bn bd (n.order d ⟨c, nw, j, r, k, m⟩ 9).2.1)) := by
  obtain ⟨bt, h⟩ := nod_open h
  have hcall := fun W (R' : HP) (h : Holds W (nblk bn bt bd n * (tab bt n.t * (dsk bd d * R')))) => norder_sl bn bt bd d n c nw j r k m 9 W h hd he hok
  rw [show keepN 9 = 9 from rfl] at hcall
  obtain ⟨⟨d', n', ⟨a1, a2, a3⟩⟩, hX⟩ : ∃ X, n.order d ⟨c, nw, j, r, k, m⟩ 9 = X := ⟨_, rfl⟩
  rw [hX] at hcall ⊢
  have HC := Lib.hid hcall
  clear hX hcall hd he hok
  obtain ⟨w0, hw0, H0, Q0⟩ : ∃ w0, (w.alloc (.cells #[.int .i64 c, .int .i64 nw, .int .i64 j, .int .i64 r, .int .i64 k, .int .i64 m] 84)).alloc (.cells #[.int .i64 0, .int .i64 0, .int .i64 0] 88) = w0 ∧ Hid (Holds w0 (bl (w.heap.size + 1) 88 [.int .i64 0, .int .i64 0, .int .i64 0] * (bl w.heap.size 84 [.int .i64 c, .int .i64 nw, .int .i64 j, .int .i64 r, .int .i64 k, .int .i64 m] * (nblk bn bt bd n * (tab bt n.t * (dsk bd d * R)))))) ∧ Hid (Quiet w w0) :=
    ⟨_, rfl, Lib.hid ((h.boxB (ty := 84) (cs := [.int .i64 c, .int .i64 nw, .int .i64 j, .int .i64 r, .int .i64 k, .int .i64 m]) rfl).boxB (ty := 88) (cs := [.int .i64 0, .int .i64 0, .int .i64 0]) (g := w.heap.size + 1) (by simp)), Lib.hid (((Quiet.refl w).alloc _).alloc _)⟩
  clear h
  obtain ⟨g0, hg0⟩ : ∃ g0, w.heap.size = g0 := ⟨_, rfl⟩
  rw [hg0] at H0
  obtain ⟨ga, hga⟩ : ∃ ga, g0 + 1 = ga := ⟨_, rfl⟩
  rw [hga] at H0
  have co := H0.out.two.bl.cells
  go_enter Tryz.func103, Tryz.ntmps103
  go_wp2_with fail
  clear hw0 hg0 hga
  refine (HC.out _ (bl ga 88 [.int .i64 0, .int .i64 0, .int .i64 0] * R) (H0.out.eq (by ac_rfl : _ = bl g0 84 [.int .i64 c, .int .i64 nw, .int .i64 j, .int .i64 r, .int .i64 k, .int .i64 m] * (nblk bn bt bd n * (tab bt n.t * (dsk bd d * (bl ga 88 [.int .i64 0, .int .i64 0, .int .i64 0] * R)))))).right).mono ?_
  rintro e w1 ⟨rfl, q1, hc⟩
  obtain ⟨bt', h1⟩ : ∃ bt' : Nat, Holds w1 (bl ga 88 [.int .i64 0, .int .i64 0, .int .i64 0] * (nblk bn bt' bd n' * (tab bt' n'.t * (dsk bd d' * R)))) := by
    rcases hc with ⟨_, ht, hc⟩ | ⟨_, bt', hc⟩
    · dsimp only at ht hc
      rw [← ht] at hc
      exact ⟨bt, hc.eq (by ac_rfl)⟩
    · dsimp only at hc
      exact ⟨bt', (hc.eq (by ac_rfl : _ = tab bt n.t * (bl ga 88 [.int .i64 0, .int .i64 0, .int .i64 0] * (nblk bn bt' bd n' * (tab bt' n'.t * (dsk bd d' * R)))))).right⟩
  have ca := h1.bl.cells
  have fa := h1.bl.frees
  have la := h1.bl.lt
  have H1 := Lib.hid h1; have Q1 := Lib.hid (Q0.out.trans q1)
  clear h1 q1 hc co H0 Q0
  simp only [Ans.val]
  go_wp2
  have hf := ((H1.out.setB 0 (.int .i64 a1)).setB 1 (.int .i64 a2)).setB 2 (.int .i64 a3)
  have hl := run_load_part (P := Tryz.prog) (off := 0) (ty := 88) (vs := [.int .i64 a1, .int .i64 a2, .int .i64 a3]) hf.bl rfl Tryz.underlying88 rfl (by kernel_rfl)
  exact bodyPost_ret (results_cell1 rfl rfl hl) rfl ⟨rfl, ((Q1.out.setCell _ _).setCell _ _).setCell _ _, nod_close hf.right⟩
set_option maxRecDepth 100000 in
set_option maxHeartbeats 4000000 in
theorem nTear_sl (bn bd : Nat) (d : Dsk) (n : Nod) (c nw j r k m kp : Int) (w : World) {R : HP} (h : Holds w (nod bn bd n * (dsk bd d * R))) (hd : d.Ok) (he : 1 ≤ n.ep) (hok : n.t.Ok) :
    Calls Tryz.prog 104 #[.pointer (some ⟨bn, 0, none⟩), .agg #[.int .i64 c, .int .i64 nw, .int .i64 j, .int .i64 r, .int .i64 k, .int .i64 m], .int .i64 kp] w
      (Post w (dsk bd (n.tear d ⟨c, nw, j, r, k, m⟩ (keepN kp)).1 * R) (.int .i64 (n.tear d ⟨c, nw, j, r, k, m⟩ (keepN kp)).2.2) (nod bn bd (n.tear d ⟨c, nw, j, r, k, m⟩ (keepN kp)).2.1)) := by
  obtain ⟨bt, h⟩ := nod_open h
  have hcall := fun W (R' : HP) (h : Holds W (nblk bn bt bd n * (tab bt n.t * (dsk bd d * R')))) => norder_sl bn bt bd d n c nw j r k m kp W h hd he hok
  unfold Nod.tear
  obtain ⟨⟨d', n', ⟨a1, a2, a3⟩⟩, hX⟩ : ∃ X, n.order d ⟨c, nw, j, r, k, m⟩ (keepN kp) = X := ⟨_, rfl⟩
  rw [hX] at hcall ⊢
  dsimp only at hcall ⊢
  obtain ⟨Y, hY⟩ : ∃ Y, (if a1 = 0 then (d', (⟨n.t, n'.ep, true⟩ : Nod), a1) else (d', n', a1)) = Y := ⟨_, rfl⟩
  rw [hY]
  have HY := Lib.hid hY
  have HC := Lib.hid hcall
  clear hX hcall hd he hok hY
  have cn := (show BlockAt w bn 119 (ncells bt bd n) from h.bl).cells
  have ln := (show BlockAt w bn 119 (ncells bt bd n) from h.bl).lt
  simp only [ncells] at cn
  have h0 := h.boxB (ty := 84) (cs := [.int .i64 c, .int .i64 nw, .int .i64 j, .int .i64 r, .int .i64 k, .int .i64 m]) rfl
  have H0 := Lib.hid h0
  clear h h0
  go_enter Tryz.func104, Tryz.ntmps104
  go_wp2_with fail
  refine (HC.out _ R H0.out.right).mono ?_
  rintro e w1 ⟨rfl, q1, hc⟩
  have Q1 := Lib.hid (((Quiet.refl w).alloc (.cells #[.int .i64 c, .int .i64 nw, .int .i64 j, .int .i64 r, .int .i64 k, .int .i64 m] 84)).trans q1)
  have HCC := Lib.hid hc
  clear q1 hc cn ln H0
  simp only [Ans.val]
  by_cases hz : a1 = 0
  · subst hz
    obtain ⟨bt', h1⟩ : ∃ bt' : Nat, Holds w1 (nblk bn bt' bd n' * (tab bt n.t * (dsk bd d' * R))) := by
      rcases HCC.out with ⟨hc, _⟩ | ⟨_, bt', hc⟩
      · exact absurd rfl hc
      · dsimp only at hc
        exact ⟨bt', (hc.eq (by ac_rfl : _ = tab bt' n'.t * (nblk bn bt' bd n' * (tab bt n.t * (dsk bd d' * R))))).right⟩
    have HY2 := Lib.hid (show (d', (⟨n.t, n'.ep, true⟩ : Nod), (0 : Int)) = Y by rw [← HY.out, if_pos rfl])
    have cn := (show BlockAt w1 bn 119 (ncells bt' bd n') from h1.bl).cells
    have fn := (show BlockAt w1 bn 119 (ncells bt' bd n') from h1.bl).frees
    have ln := (show BlockAt w1 bn 119 (ncells bt' bd n') from h1.bl).lt
    simp only [ncells] at cn
    have H1 := Lib.hid h1
    clear h1 HCC HY
    go_wp2
    rw [← HY2.out]
    go_ret
    exact ⟨rfl, ((Q1.out.setCell _ _).setCell _ _).alloc _, nod_close (((H1.out.setB 0 (.pointer (some ⟨bt, 0, none⟩))).setB 3 (.bool true)).alloc _)⟩
  · have hzb : (a1 == 0) = false := by simpa using hz
    have h1 : Holds w1 (nblk bn bt bd n' * (tab bt n'.t * (dsk bd d' * R))) := by
      rcases HCC.out with ⟨_, ht, hc⟩ | ⟨hc, _⟩
      · dsimp only at hc ht
        rw [ht]; exact hc
      · exact absurd hc hz
    have HY2 := Lib.hid (show (d', n', a1) = Y by rw [← HY.out, if_neg hz])
    have H1 := Lib.hid h1
    clear h1 HCC HY hz
    go_wp2
    rw [← HY2.out]
    go_ret
    exact ⟨rfl, Q1.out.alloc _, nod_close (H1.out.alloc _)⟩
theorem nStop_sl (bn bd : Nat) (n : Nod) (w : World) {R : HP} (h : Holds w (nod bn bd n * R)) : Calls Tryz.prog 105 #[.pointer (some ⟨bn, 0, none⟩)] w (Post w R (.tuple #[]) (nod bn bd ⟨n.t, n.ep, true⟩)) := by
  obtain ⟨bt, h⟩ := nod_open h
  have cn := (show BlockAt w bn 119 (ncells bt bd n) from h.bl).cells
  have fn := (show BlockAt w bn 119 (ncells bt bd n) from h.bl).frees
  simp only [ncells] at cn
  have H := Lib.hid h
  clear h
  go_enter Tryz.func105, Tryz.ntmps105
  go_wp2
  refine bodyPost_ret (v := .tuple #[]) (by simp [results, Tryz.results105, go_sem]) rfl ⟨rfl, (Quiet.refl w).setCell _ _, nod_close (H.out.setB 3 (.bool true))⟩
end Go.Proofs.YtfihmpkkpgmdhaaGreatDoor

/-
  The package node, walked: Open.
-/
namespace Go.Proofs.YtfihmpkkpgmdhaaGreatDoor
set_option linter.unusedSimpArgs false
set_option linter.unusedVariables false
open Go.RowKit
set_option maxRecDepth 100000 in
set_option maxHeartbeats 4000000 in
theorem nOpen_full (bd : Nat) (d : Dsk) (w : World) {R : HP} (h : Holds w (dsk bd d * R)) (hd : d.Ok) (hc : 100 ≤ d.ep) :
    Calls Tryz.prog 102 #[.pointer (some ⟨bd, 0, none⟩)] w (Post w R (.tuple #[.pointer none, .int .i64 8]) (dsk bd d)) := by
  have e : d.raise = (d, 0, 8) := by simp [Dsk.raise, hc]
  have HE := Lib.hid e; have H := Lib.hid h; have HD := Lib.hid hd
  clear e h hd hc
  go_enter Tryz.func102, Tryz.ntmps102
  go_wp2_with fail
  refine (depoch_sl bd d _ H.out).mono ?_
  rintro e w1 ⟨rfl, rfl⟩
  go_wp2_with fail
  refine (raise_sl bd d _ H.out HD.out).mono ?_
  rw [HE.out]
  rintro e w1 ⟨rfl, q1, h1⟩
  have H1 := Lib.hid h1; have Q1 := Lib.hid q1; clear h1 q1
  go_wp2
  go_ret2
  exact ⟨rfl, Q1.out, H1.out⟩
theorem nOpen_nil (w : World) : Calls Tryz.prog 102 #[.pointer none] w fun e w' => e = .returned (.tuple #[.pointer none, .int .i64 5]) ∧ w = w' := by
  go_enter Tryz.func102, Tryz.ntmps102
  go_wp2
  go_ret2
  exact ⟨rfl, rfl⟩
set_option maxRecDepth 100000 in
set_option maxHeartbeats 4000000 in
theorem nOpen_sl (bd : Nat) (d : Dsk) (w : World) {R : HP} (h : Holds w (dsk bd d * R)) (hd : d.Ok) (hc : ¬ 100 ≤ d.ep) :
    Calls Tryz.prog 102 #[.pointer (some ⟨bd, 0, none⟩)] w (PostX w (dsk bd (opened d).1 * R) (fun bn : Nat => .tuple #[.pointer (some ⟨bn, 0, none⟩), .int .i64 0]) fun bn => nod bn bd ⟨behind (found d), d.ep + 1, false⟩) := by
  obtain ⟨ep, B⟩ := d
  have e : (⟨ep, B⟩ : Dsk).raise = (⟨ep + 1, B⟩, ep + 1, 0) := by simp [Dsk.raise]; dsimp only at hc; omega
  have hep := hd.ep
  have hB := hd.b
  dsimp only at hep hB hc
  have hd1 : (⟨ep + 1, B⟩ : Dsk).Ok := ⟨by dsimp only; omega, hB⟩
  obtain ⟨L, hL⟩ : ∃ L, allB B = L := ⟨_, rfl⟩
  have hLl : 9 * L.length ≤ B.length := by rw [← hL]; exact allB_len B
  have hLR : Rising 0 L := by rw [← hL]; exact allB_rising B
  obtain ⟨F, hF⟩ : ∃ F, untilE ep L = F := ⟨_, rfl⟩
  obtain ⟨d9, hd9⟩ : ∃ d9, (opened ⟨ep, B⟩).1 = d9 := ⟨_, rfl⟩
  have hF2 : found ⟨ep, B⟩ = F := by unfold found; rw [hL, hF]
  rw [hF2, hd9]
  have hd92 : d9 = ⟨ep + 1, B.take (9 * F.length)⟩ := by rw [← hd9, opened, if_neg (by dsimp only; exact hc), hF2]
  have HE := Lib.hid e; have H := Lib.hid h; have HD := Lib.hid hd; have HD1 := Lib.hid hd1; have HL := Lib.hid hL; have HLL := Lib.hid hLl; have HLR := Lib.hid hLR; have HF := Lib.hid hF; have HD9 := Lib.hid hd92; have HB := Lib.hid hB
  clear e h hd hd1 hL hLl hLR hF hd92 hF2 hd9 hB
  dsimp only
  go_enter Tryz.func102, Tryz.ntmps102
  go_wp2_with fail
  refine (depoch_sl bd ⟨ep, B⟩ _ H.out).mono ?_
  rintro e w1 ⟨rfl, rfl⟩
  dsimp only
  go_wp2_with fail
  refine (raise_sl bd ⟨ep, B⟩ _ H.out HD.out).mono ?_
  rw [HE.out]
  rintro e w1 ⟨rfl, q1, h1⟩
  have H1 := Lib.hid h1; have Q1 := Lib.hid q1; clear h1 q1
  go_wp2_with fail
  refine (bytes_sl bd ⟨ep + 1, B⟩ _ H1.out HD1.out).mono ?_
  rintro e w2 ⟨v, rfl, q2, h2⟩
  have H2 := Lib.hid (show Holds w2 (ownb v B * (dsk bd ⟨ep + 1, B⟩ * R)) from h2); have Q2 := Lib.hid (Q1.out.trans q2); clear h2 q2 H1 Q1
  go_wp2_with fail
  refine (all_sl v B _ H2.out.ownb.bytes (by have := HB.out; omega) H2.out).mono ?_
  rintro e w3 ⟨v3, rfl, q3, h3⟩
  rw [HL.out] at h3
  have hrow := h3.row
  obtain ⟨a, cc, rfl, c1, c2⟩ := hrow.shape
  have H3 := Lib.hid (show Holds w3 (recs (.slice a L.length cc) L * (dsk bd ⟨ep + 1, B⟩ * R)) from (h3.eq (by ac_rfl : _ = ownb v B * (recs (.slice a L.length cc) L * (dsk bd ⟨ep + 1, B⟩ * R)))).right); have Q3 := Lib.hid (Q2.out.trans q3)
  have HROW := Lib.hid hrow
  clear h3 q3 H2 Q2 hrow
  have hl1 : L.length ≤ 200 := by have := HLL.out; have := HB.out; omega
  have C1 := Lib.hid c1; clear c1
  go_wp2_with fail
  go_loopw [7] (fun s wr => ∃ k : Nat, k ≤ L.length ∧ s = .slice a k cc ∧ wr = w3 ∧ Hid (untilE ep L = untilE ep (L.take k))) (fun s _ => match s with | .slice _ k _ => k | _ => 0)
  case atStart => exact ⟨L.length, Nat.le_refl _, rfl, rfl, Lib.hid (by rw [List.take_length])⟩
  case round =>
    obtain ⟨k, hk, rfl, rfl, hu⟩ := hrel
    have hkc : k ≤ cc := by have := C1.out; omega
    have hcase : (∃ q, k = q + 1 ∧ ∃ r, L[q]? = some r ∧ ep < r.ep) ∨ (k = 0 ∨ 0 < k ∧ ∃ r, L[k - 1]? = some r ∧ r.ep ≤ ep) := by
      cases k with
      | zero => exact .inr (.inl rfl)
      | succ q =>
        obtain ⟨r, hr⟩ : ∃ r, L[q]? = some r := ⟨_, List.getElem?_eq_getElem (by omega)⟩
        by_cases h : ep < r.ep
        · exact .inl ⟨q, rfl, r, hr, h⟩
        · exact .inr (.inr ⟨by omega, r, hr, by omega⟩)
    have goes : ∀ q r, k = q + 1 → L[q]? = some r → ∃ g off, a = some ⟨g, off, none⟩ ∧ wr.cell? ⟨g, off + q * 7, none⟩ = some (.int .i64 r.ep) := fun q r hq hr => by
      obtain ⟨g, off, cx, e, _, _, hc0⟩ := HROW.out.get (by omega)
      simp only [Value.slice.injEq] at e
      refine ⟨g, off, e.1, ?_⟩
      have := rvs_cell hc0 hr 0 _ (by omega) rfl
      rwa [Nat.add_zero] at this
    rcases hcase with ⟨q, rfl, r, hr, her⟩ | hend
    · obtain ⟨g, off, rfl, hcell⟩ := goes q r rfl hr
      have hu2 := Lib.hid (untilE_step HLR.out hu.out (by omega) (by simpa using hr) her)
      clear goes hr hu
      go_wp2_with fail
      go_roundw
      case rel => exact ⟨q, by omega, by go_num, by first | rfl | trivial, by simpa using hu2⟩
      case measure => simp
    · have hfk := Lib.hid ((untilE_end HLR.out hu.out hend).symm.trans HF.out)
      have HK := Lib.hid hk
      have hk2 : k ≤ 200 := by omega
      have hlen := Lib.hid (show F.length = k by rw [← hfk.out, List.length_take]; have := HK.out; omega)
      have hcut : (⟨ep + 1, B⟩ : Dsk).cut (ep + 1) ((k : Int) * 9) = (d9, 0) := by
        have h1 := HLL.out; have h2 := HK.out
        rw [Dsk.cut, if_neg (by dsimp only; omega), if_neg (by dsimp only; omega), HD9.out, hlen.out]
        congr 3
        omega
      have HCUT := Lib.hid hcut
      have hd9ok : d9.Ok := by have := Dsk.cut_ok HD1.out (ep + 1) ((k : Int) * 9); rw [hcut] at this; exact this
      have HOK9 := Lib.hid hd9ok
      have HKL := Lib.hid (show k ≤ L.length from hk)
      clear hcut hd9ok hu
      rcases hend with rfl | ⟨h0, r, hr, hle⟩
      · clear goes hk
        have hcut := HCUT.out
        simp only [Int.ofNat_zero, Int.zero_mul] at hcut
        have HCUT := Lib.hid hcut
        clear hcut
        go_wp2_with fail
        refine (cut_sl bd ⟨ep + 1, B⟩ (ep + 1) (0) _ H3.out.two HD1.out).mono ?_
        rw [HCUT.out]
        rintro e w4 ⟨rfl, q4, h4⟩
        have H4 := Lib.hid h4; have Q4 := Lib.hid (Q3.out.trans q4); clear h4 q4
        go_wp2_with fail
        refine (new_sl _ H4.out).mono ?_
        rintro e w5 ⟨bt, rfl, q5, h5⟩
        obtain ⟨bn, hbn⟩ : ∃ bn, w5.heap.size = bn := ⟨_, rfl⟩
        have h6 := h5.boxB (ty := 119) (cs := ncells bt bd ⟨Tbl.zero, ep + 1, false⟩) hbn
        have q6 := (Q4.out.trans q5).alloc (.cells (ncells bt bd ⟨Tbl.zero, ep + 1, false⟩).toArray 119)
        have H6 := Lib.hid (show Holds (w5.alloc (.cells (ncells bt bd ⟨Tbl.zero, ep + 1, false⟩).toArray 119)) (nblk bn bt bd ⟨Tbl.zero, ep + 1, false⟩ * (tab bt Tbl.zero * (dsk bd d9 * (recs (.slice a L.length cc) L * R)))) from h6)
        have Q6 := Lib.hid q6
        clear h5 q5 h6 q6 H4 Q4
        go_wp2_with fail
        clear hbn
        go_loopw [58] (fun i wr => ∃ j : Nat, j ≤ 0 ∧ i = .int .i64 j ∧ Holds wr (nblk bn bt bd ⟨Tbl.zero, ep + 1, false⟩ * (tab bt (runL Tbl.zero (L.take j)) * (dsk bd d9 * (recs (.slice a L.length cc) L * R)))) ∧ Quiet w wr) (fun i _ => 0 - (intOf i).toNat)
        case atStart => exact ⟨0, by omega, rfl, H6.out, Q6.out⟩
        case round =>
          obtain ⟨j, hj, rfl, hh, hq⟩ := hrel
          have HJ := Lib.hid hj
          by_cases hlt : j < 0
          · omega
          · obtain rfl : j = 0 := by omega
            go_wp2
            go_ret2
            exact ⟨bn, rfl, hq, nod_close ((hh.eq (by ac_rfl : _ = recs (.slice a L.length cc) L * (nblk bn bt bd ⟨Tbl.zero, ep + 1, false⟩ * (tab bt (runL Tbl.zero (L.take (0))) * (dsk bd d9 * R))))).right.eq (by rw [show L.take (0) = F from hfk.out]; rfl))⟩
      · obtain ⟨q, rfl⟩ : ∃ q, k = q + 1 := ⟨k - 1, by omega⟩
        simp only [Nat.add_sub_cancel] at hr
        obtain ⟨g, off, rfl, hcell⟩ := goes q r rfl hr
        clear goes hk h0 hr
        have hcut := HCUT.out
        rw [show ((q + 1 : Nat) : Int) = (q : Int) + 1 from by omega] at hcut
        have HCUT := Lib.hid hcut
        clear hcut
        go_wp2_with fail
        clear hcell hle
        refine (cut_sl bd ⟨ep + 1, B⟩ (ep + 1) (((q : Int) + 1) * 9) _ H3.out.two HD1.out).mono ?_
        rw [HCUT.out]
        rintro e w4 ⟨rfl, q4, h4⟩
        have H4 := Lib.hid h4; have Q4 := Lib.hid (Q3.out.trans q4); clear h4 q4
        go_wp2_with fail
        refine (new_sl _ H4.out).mono ?_
        rintro e w5 ⟨bt, rfl, q5, h5⟩
        obtain ⟨bn, hbn⟩ : ∃ bn, w5.heap.size = bn := ⟨_, rfl⟩
        have h6 := h5.boxB (ty := 119) (cs := ncells bt bd ⟨Tbl.zero, ep + 1, false⟩) hbn
        have q6 := (Q4.out.trans q5).alloc (.cells (ncells bt bd ⟨Tbl.zero, ep + 1, false⟩).toArray 119)
        have H6 := Lib.hid (show Holds (w5.alloc (.cells (ncells bt bd ⟨Tbl.zero, ep + 1, false⟩).toArray 119)) (nblk bn bt bd ⟨Tbl.zero, ep + 1, false⟩ * (tab bt Tbl.zero * (dsk bd d9 * (recs (.slice (some ⟨g, off, none⟩) L.length cc) L * R)))) from h6)
        have Q6 := Lib.hid q6
        clear h5 q5 h6 q6 H4 Q4
        go_wp2_with fail
        clear hbn
        go_loopw [58] (fun i wr => ∃ j : Nat, j ≤ q + 1 ∧ i = .int .i64 j ∧ Holds wr (nblk bn bt bd ⟨Tbl.zero, ep + 1, false⟩ * (tab bt (runL Tbl.zero (L.take j)) * (dsk bd d9 * (recs (.slice (some ⟨g, off, none⟩) L.length cc) L * R)))) ∧ Quiet w wr) (fun i _ => q + 1 - (intOf i).toNat)
        case atStart => exact ⟨0, by omega, rfl, H6.out, Q6.out⟩
        case round =>
          obtain ⟨j, hj, rfl, hh, hq⟩ := hrel
          have HJ := Lib.hid hj
          by_cases hlt : j < q + 1
          · obtain ⟨r, hr⟩ : ∃ r, L[j]? = some r := ⟨_, List.getElem?_eq_getElem (by have := HKL.out; omega)⟩
            obtain ⟨gr, offr, cx, e, _, _, hc0⟩ := (hh.four.row).get (by have := HKL.out; omega)
            simp only [Value.slice.injEq] at e
            obtain ⟨ea, _, _⟩ := e
            simp only [Option.some.injEq, Addr.mk.injEq, and_true] at ea
            obtain ⟨rfl, rfl⟩ := ea
            have hrun := Lib.hid (runL_step hr Tbl.zero)
            have hin := Lib.hid (runL_in Tbl.zero_in (L.take j))
            obtain ⟨ep2, ⟨kd, nw, jb, tr, wk, tm⟩⟩ := r
            have y0 := rvs_cell hc0 hr 0 _ (by omega) rfl
            have y1 := rvs_cell hc0 hr 1 _ (by omega) rfl
            have y2 := rvs_cell hc0 hr 2 _ (by omega) rfl
            have y3 := rvs_cell hc0 hr 3 _ (by omega) rfl
            have y4 := rvs_cell hc0 hr 4 _ (by omega) rfl
            have y5 := rvs_cell hc0 hr 5 _ (by omega) rfl
            have y6 := rvs_cell hc0 hr 6 _ (by omega) rfl
            rw [Nat.add_zero] at y0
            dsimp only at y0 y1 y2 y3 y4 y5 y6
            obtain ⟨wo, rfl⟩ : ∃ wo : World, wo = wr := ⟨_, rfl⟩
            have hx := hh.boxB (ty := 103) (cs := [.int .i64 ep2, .int .i64 kd, .int .i64 nw, .int .i64 jb, .int .i64 tr, .int .i64 wk, .int .i64 tm]) rfl
            have HX := Lib.hid hx; have QX := Lib.hid (hq.alloc (.cells ([.int .i64 ep2, .int .i64 kd, .int .i64 nw, .int .i64 jb, .int .i64 tr, .int .i64 wk, .int .i64 tm] : List Value).toArray 103))
            clear hh hq hr hc0 hx
            dsimp only at hrun
            obtain ⟨T, hT⟩ : ∃ T, runL Tbl.zero (L.take j) = T := ⟨_, rfl⟩
            rw [hT] at HX hin hrun
            clear hT
            go_wp2_with fail
            clear y0 y1 y2 y3 y4 y5 y6
            refine wp_region_lex (fun W => (∀ o, W.cell? ⟨bn, o, none⟩ = [.pointer (some ⟨bt, 0, none⟩), .pointer (some ⟨bd, 0, none⟩), .int .i64 (ep + 1), .bool false][o]?) ∧ ∀ o, W.cell? ⟨wo.heap.size, o, none⟩ = [.int .i64 ep2, .int .i64 kd, .int .i64 nw, .int .i64 jb, .int .i64 tr, .int .i64 wk, .int .i64 tm][o]?) [6] (by kernel_rfl) (by kernel_rfl) ⟨(show BlockAt _ bn 119 (ncells bt bd ⟨Tbl.zero, ep + 1, false⟩) from HX.out.right.drew.bl).cells, HX.out.drew.bl.cells⟩ ?_
            repeat (first | (refine LexL.none (by rfl) ?_; (try simp only [Act.put, List.setIfInBounds_toArray, List.set_cons_zero, List.set_cons_succ])) | (refine LexL.still (v := ?_) (by rfl) ?_ ?_; rotate_left; (focus (intro W hW; (try dsimp only at hW); go_simp; (try (with_reducible rfl)); done)); (try simp only [Act.put, List.setIfInBounds_toArray, List.set_cons_zero, List.set_cons_succ])))
            refine LexL.call (f := 79) (args := #[.pointer (some ⟨bt, 0, none⟩), .agg #[.int .i64 kd, .int .i64 nw, .int .i64 jb, .int .i64 tr, .int .i64 wk, .int .i64 tm]]) (w1 := (wo.alloc (.cells #[.int .i64 ep2, .int .i64 kd, .int .i64 nw, .int .i64 jb, .int .i64 tr, .int .i64 wk, .int .i64 tm] 103)).drew) (by rfl) (by decide) (by go_simp) ?_
            refine (do_sl bt T kd nw jb tr wk tm _ (HX.out.drew.three) hin.out.ok).mono ?_
            rintro e w7 ⟨rfl, q7, h7⟩
            have h8 := h7.eq (by ac_rfl : _ = bl wo.heap.size 103 [.int .i64 ep2, .int .i64 kd, .int .i64 nw, .int .i64 jb, .int .i64 tr, .int .i64 wk, .int .i64 tm] * (nblk bn bt bd ⟨Tbl.zero, ep + 1, false⟩ * (tab bt (T.did ⟨kd, nw, jb, tr, wk, tm⟩).1 * (dsk bd d9 * (recs (.slice (some ⟨g, off, none⟩) L.length cc) L * R)))))
            have H8 := Lib.hid h8.right; have Q8 := Lib.hid (QX.out.drew.trans q7)
            refine ⟨_, rfl, ⟨(show BlockAt _ bn 119 (ncells bt bd ⟨Tbl.zero, ep + 1, false⟩) from h8.right.bl).cells, h8.bl.cells⟩, ?_⟩
            clear h7 h8 q7
            try simp only [Act.put, List.setIfInBounds_toArray, List.set_cons_zero, List.set_cons_succ]
            repeat (first | (refine LexL.none (by rfl) ?_; (try simp only [Act.put, List.setIfInBounds_toArray, List.set_cons_zero, List.set_cons_succ])) | (refine LexL.still (v := ?_) (by rfl) ?_ ?_; rotate_left; (focus (intro W hW; (try dsimp only at hW); go_simp; (try (with_reducible rfl)); done)); (try simp only [Act.put, List.setIfInBounds_toArray, List.set_cons_zero, List.set_cons_succ])))
            refine LexL.done ?_
            go_wp2_with fail
            go_roundw
            case rel => exact ⟨j + 1, by omega, by go_num, by rw [hrun.out]; exact H8.out, Q8.out⟩
            case measure => simp [intOf]; omega
          · obtain rfl : j = q + 1 := by omega
            go_wp2
            go_ret2
            exact ⟨bn, rfl, hq, nod_close ((hh.eq (by ac_rfl : _ = recs (.slice (some ⟨g, off, none⟩) L.length cc) L * (nblk bn bt bd ⟨Tbl.zero, ep + 1, false⟩ * (tab bt (runL Tbl.zero (L.take (q + 1))) * (dsk bd d9 * R))))).right.eq (by rw [show L.take (q + 1) = F from hfk.out]; rfl))⟩
end Go.Proofs.YtfihmpkkpgmdhaaGreatDoor

/-
  The package guild, walked: a step of a node; open; Node; Now; New.
-/
namespace Go.Proofs.YtfihmpkkpgmdhaaGreatDoor
set_option linter.unusedSimpArgs false
set_option linter.unusedVariables false
open Go.RowKit
/-- What a step of a node does. -/
def gact (d : Dsk) (n : Nod) (kd kp : Int) (o : Ord) : Dsk × Nod × Ans :=
  if kd = 2 then n.order d o 9 else if kd = 3 then ((n.tear d o (keepN kp)).1, (n.tear d o (keepN kp)).2.1, ⟨(n.tear d o (keepN kp)).2.2, 0, 0⟩) else (d, ⟨n.t, n.ep, true⟩, ⟨0, 0, 0⟩)
def scells (kd x kp : Int) (o : Ord) : List Value := [.int .i64 kd, .int .i64 x, .int .i64 kp, .int .i64 o.kind, .int .i64 o.now, .int .i64 o.job, .int .i64 o.tr, .int .i64 o.wk, .int .i64 o.tm]
set_option maxRecDepth 100000 in
set_option maxHeartbeats 4000000 in
theorem gnode_sl (bg bn bd : Nat) (d : Dsk) (n : Nod) (kd x kp c nw j r k m : Int) (w : World) {R : HP} (h : Holds w (nod bn bd n * (dsk bd d * R))) (hd : d.Ok) (he : 1 ≤ n.ep) (hok : n.t.Ok) :
    Calls Tryz.prog 74 #[.pointer (some ⟨bg, 0, none⟩), .pointer (some ⟨bn, 0, none⟩), .agg #[.int .i64 kd, .int .i64 x, .int .i64 kp, .int .i64 c, .int .i64 nw, .int .i64 j, .int .i64 r, .int .i64 k, .int .i64 m]] w
      (Post w (dsk bd (gact d n kd kp ⟨c, nw, j, r, k, m⟩).1 * R) (gact d n kd kp ⟨c, nw, j, r, k, m⟩).2.2.val (nod bn bd (gact d n kd kp ⟨c, nw, j, r, k, m⟩).2.1)) := by
  have hord := fun W (R' : HP) (h : Holds W (nod bn bd n * (dsk bd d * R'))) => nOrder_sl bn bd d n c nw j r k m W h hd he hok
  have htear := fun W (R' : HP) (h : Holds W (nod bn bd n * (dsk bd d * R'))) => nTear_sl bn bd d n c nw j r k m kp W h hd he hok
  obtain ⟨w0, hw0, H0, Q0⟩ : ∃ w0, (w.alloc (.cells #[.int .i64 kd, .int .i64 x, .int .i64 kp, .int .i64 c, .int .i64 nw, .int .i64 j, .int .i64 r, .int .i64 k, .int .i64 m] 86)).alloc (.cells #[.int .i64 0, .int .i64 0, .int .i64 0] 88) = w0 ∧ Hid (Holds w0 (bl (w.heap.size + 1) 88 [.int .i64 0, .int .i64 0, .int .i64 0] * (bl w.heap.size 86 [.int .i64 kd, .int .i64 x, .int .i64 kp, .int .i64 c, .int .i64 nw, .int .i64 j, .int .i64 r, .int .i64 k, .int .i64 m] * (nod bn bd n * (dsk bd d * R))))) ∧ Hid (Quiet w w0) :=
    ⟨_, rfl, Lib.hid ((h.boxB (ty := 86) (cs := [.int .i64 kd, .int .i64 x, .int .i64 kp, .int .i64 c, .int .i64 nw, .int .i64 j, .int .i64 r, .int .i64 k, .int .i64 m]) rfl).boxB (ty := 88) (cs := [.int .i64 0, .int .i64 0, .int .i64 0]) (g := w.heap.size + 1) (by simp)), Lib.hid (((Quiet.refl w).alloc _).alloc _)⟩
  clear h hd he hok
  obtain ⟨g0, hg0⟩ : ∃ g0, w.heap.size = g0 := ⟨_, rfl⟩
  rw [hg0] at H0
  obtain ⟨ga, hga⟩ : ∃ ga, g0 + 1 = ga := ⟨_, rfl⟩
  rw [hga] at H0
  have co := H0.out.two.bl.cells
  unfold gact
  by_cases h2 : kd = 2
  · subst h2
    rw [if_pos rfl]
    obtain ⟨⟨d', n', ⟨a1, a2, a3⟩⟩, hX⟩ : ∃ X, n.order d ⟨c, nw, j, r, k, m⟩ 9 = X := ⟨_, rfl⟩
    rw [hX] at hord ⊢
    have HO := Lib.hid hord
    clear hord htear hX
    go_enter Tryz.func74, Tryz.ntmps74
    go_wp2_with fail
    clear hw0 hg0 hga
    refine (HO.out _ (bl ga 88 [.int .i64 0, .int .i64 0, .int .i64 0] * R) (H0.out.eq (by ac_rfl : _ = bl g0 86 [.int .i64 2, .int .i64 x, .int .i64 kp, .int .i64 c, .int .i64 nw, .int .i64 j, .int .i64 r, .int .i64 k, .int .i64 m] * (nod bn bd n * (dsk bd d * (bl ga 88 [.int .i64 0, .int .i64 0, .int .i64 0] * R))))).right).mono ?_
    rintro e w1 ⟨rfl, q1, h1⟩
    have h2 := h1.eq (by ac_rfl : _ = bl ga 88 [.int .i64 0, .int .i64 0, .int .i64 0] * (nod bn bd n' * (dsk bd d' * R)))
    have ca := h2.bl.cells
    have fa := h2.bl.frees
    have la := h2.bl.lt
    have H2 := Lib.hid h2; have Q2 := Lib.hid (Q0.out.trans q1)
    clear h1 h2 q1 co H0 Q0
    simp only [Ans.val]
    go_wp2
    have hf := ((H2.out.setB 0 (.int .i64 a1)).setB 1 (.int .i64 a2)).setB 2 (.int .i64 a3)
    have hl := run_load_part (P := Tryz.prog) (off := 0) (ty := 88) (vs := [.int .i64 a1, .int .i64 a2, .int .i64 a3]) hf.bl rfl Tryz.underlying88 rfl (by kernel_rfl)
    exact bodyPost_ret (results_cell1 rfl rfl hl) rfl ⟨rfl, ((Q2.out.setCell _ _).setCell _ _).setCell _ _, hf.right⟩
  · rw [if_neg h2]
    have hk2 : (kd == 2) = false := by simpa using h2
    clear h2
    by_cases h3 : kd = 3
    · subst h3
      rw [if_pos rfl]
      obtain ⟨⟨d', n', a1⟩, hX⟩ : ∃ X, n.tear d ⟨c, nw, j, r, k, m⟩ (keepN kp) = X := ⟨_, rfl⟩
      rw [hX] at htear ⊢
      have HO := Lib.hid htear
      clear hord htear hX
      go_enter Tryz.func74, Tryz.ntmps74
      go_wp2_with fail
      clear hw0 hg0 hga
      refine (HO.out _ (bl ga 88 [.int .i64 0, .int .i64 0, .int .i64 0] * R) (H0.out.eq (by ac_rfl : _ = bl g0 86 [.int .i64 3, .int .i64 x, .int .i64 kp, .int .i64 c, .int .i64 nw, .int .i64 j, .int .i64 r, .int .i64 k, .int .i64 m] * (nod bn bd n * (dsk bd d * (bl ga 88 [.int .i64 0, .int .i64 0, .int .i64 0] * R))))).right).mono ?_
      rintro e w1 ⟨rfl, q1, h1⟩
      have h2 := h1.eq (by ac_rfl : _ = bl ga 88 [.int .i64 0, .int .i64 0, .int .i64 0] * (nod bn bd n' * (dsk bd d' * R)))
      have ca := h2.bl.cells
      have fa := h2.bl.frees
      have la := h2.bl.lt
      have H2 := Lib.hid h2; have Q2 := Lib.hid (Q0.out.trans q1)
      clear h1 h2 q1 co H0 Q0
      simp only [Ans.val]
      go_wp2
      have hf := ((H2.out.setB 0 (.int .i64 a1)).setB 1 (.int .i64 0)).setB 2 (.int .i64 0)
      have hl := run_load_part (P := Tryz.prog) (off := 0) (ty := 88) (vs := [.int .i64 a1, .int .i64 0, .int .i64 0]) hf.bl rfl Tryz.underlying88 rfl (by kernel_rfl)
      exact bodyPost_ret (results_cell1 rfl rfl hl) rfl ⟨rfl, ((Q2.out.setCell _ _).setCell _ _).setCell _ _, hf.right⟩
    · rw [if_neg h3]
      have hk3 : (kd == 3) = false := by simpa using h3
      clear h3 hord htear
      go_enter Tryz.func74, Tryz.ntmps74
      go_wp2_with fail
      clear hw0 hg0 hga
      refine (nStop_sl bn bd n _ (H0.out.three)).mono ?_
      rintro e w1 ⟨rfl, q1, h1⟩
      have h2 := h1.two
      have ca := h2.bl.cells
      have fa := h2.bl.frees
      have la := h2.bl.lt
      have H2 := Lib.hid h2; have Q2 := Lib.hid (Q0.out.trans q1)
      clear h1 h2 q1 co H0 Q0
      simp only [Ans.val]
      go_wp2
      have hf := ((H2.out.setB 0 (.int .i64 0)).setB 1 (.int .i64 0)).setB 2 (.int .i64 0)
      have hl := run_load_part (P := Tryz.prog) (off := 0) (ty := 88) (vs := [.int .i64 0, .int .i64 0, .int .i64 0]) hf.bl rfl Tryz.underlying88 rfl (by kernel_rfl)
      exact bodyPost_ret (results_cell1 rfl rfl hl) rfl ⟨rfl, ((Q2.out.setCell _ _).setCell _ _).setCell _ _, hf.right.two.right⟩

/-- A node, or none, at a pointer. -/
def onod (v : Value) (bd : Nat) : Option Nod → HP
  | none => HP.wi (v = .pointer none) HP.emp
  | some n => HP.ex fun bn : Nat => HP.wi (v = .pointer (some ⟨bn, 0, none⟩)) (nod bn bd n)
theorem wi_open {p : Prop} {A R : HP} {w : World} (h : Holds w (HP.wi p A * R)) : p ∧ Holds w (A * R) := by
  obtain ⟨F, F1, F2, hd, hF, ⟨hp, ha⟩, hb⟩ := h
  exact ⟨hp, F, F1, F2, hd, hF, ha, hb⟩
theorem wi_close {p : Prop} {A R : HP} {w : World} (hp : p) (h : Holds w (A * R)) : Holds w (HP.wi p A * R) := by
  obtain ⟨F, F1, F2, hd, hF, ha, hb⟩ := h
  exact ⟨F, F1, F2, hd, hF, ⟨hp, ha⟩, hb⟩
theorem emp_mul {A : HP} {w : World} (h : Holds w A) : Holds w (HP.emp * A) := by
  obtain ⟨F, hF⟩ := h
  exact ⟨F, fun _ => False, F, fun _ h => h.elim, fun k => by simp, fun k h => h, hF⟩
theorem onod_none {v : Value} {bd : Nat} {R : HP} {w : World} (h : Holds w (onod v bd none * R)) : v = .pointer none ∧ Holds w R := by
  obtain ⟨hp, h⟩ := wi_open h
  exact ⟨hp, h.right⟩
theorem onod_some {v : Value} {bd : Nat} {n : Nod} {R : HP} {w : World} (h : Holds w (onod v bd (some n) * R)) : ∃ bn : Nat, v = .pointer (some ⟨bn, 0, none⟩) ∧ Holds w (nod bn bd n * R) := by
  obtain ⟨bn, h⟩ := HP.ex_mul h
  obtain ⟨hp, h⟩ := wi_open h
  exact ⟨bn, hp, h⟩
theorem onod_mk {bn bd : Nat} {n : Nod} {R : HP} {w : World} (h : Holds w (nod bn bd n * R)) : Holds w (onod (.pointer (some ⟨bn, 0, none⟩)) bd (some n) * R) :=
  HP.mul_ex (A := fun bn' : Nat => HP.wi (Value.pointer (some ⟨bn, 0, none⟩) = .pointer (some ⟨bn', 0, none⟩)) (nod bn' bd n)) (x := bn) (wi_close rfl h)
theorem onod_mkNone {bd : Nat} {R : HP} {w : World} (h : Holds w R) : Holds w (onod (.pointer none) bd none * R) := wi_close rfl (emp_mul h)
def nodes3 (bd : Nat) (vs : Nat → Value) (f : Nat → Option Nod) : HP := onod (vs 0) bd (f 0) * (onod (vs 1) bd (f 1) * onod (vs 2) bd (f 2))
/-- All but the i-th. -/
def nrest (bd : Nat) (vs : Nat → Value) (f : Nat → Option Nod) (i : Nat) : HP :=
  if i = 0 then onod (vs 1) bd (f 1) * onod (vs 2) bd (f 2) else if i = 1 then onod (vs 0) bd (f 0) * onod (vs 2) bd (f 2) else onod (vs 0) bd (f 0) * onod (vs 1) bd (f 1)
theorem nodes3_pick (bd : Nat) (vs : Nat → Value) (f : Nat → Option Nod) {i : Nat} (hi : i < 3) : nodes3 bd vs f = onod (vs i) bd (f i) * nrest bd vs f i := by
  unfold nodes3 nrest
  match i, hi with
  | 0, _ => rfl
  | 1, _ => simp only [if_neg (show ¬ (1 : Nat) = 0 by decide), if_true]; ac_rfl
  | 2, _ => simp only [if_neg (show ¬ (2 : Nat) = 0 by decide), if_neg (show ¬ (2 : Nat) = 1 by decide)]; ac_rfl
def updV (vs : Nat → Value) (i : Nat) (v : Value) : Nat → Value := fun k => if k = i then v else vs k
theorem nodes3_put (bd : Nat) (vs : Nat → Value) (f : Nat → Option Nod) {i : Nat} (hi : i < 3) (v : Value) (n : Nod) : nodes3 bd (updV vs i v) (putN f i n) = onod v bd (some n) * nrest bd vs f i := by
  rw [nodes3_pick _ _ _ hi]
  have e : nrest bd (updV vs i v) (putN f i n) i = nrest bd vs f i := by
    unfold nrest updV putN
    match i, hi with
    | 0, _ | 1, _ | 2, _ => simp
  rw [e]
  simp [updV, putN]
theorem updV_self (vs : Nat → Value) (i : Nat) : updV vs i (vs i) = vs := by
  funext k
  unfold updV
  split
  · subst_vars; rfl
  · rfl
def gcells (bd : Nat) (vs : Nat → Value) (now : Int) : List Value := [.pointer (some ⟨bd, 0, none⟩), vs 0, vs 1, vs 2, .int .i64 now]
def gblk (bg bd : Nat) (vs : Nat → Value) (now : Int) : HP := bl bg 65 (gcells bd vs now)
theorem gcells_get (bd : Nat) (vs : Nat → Value) (now : Int) {i : Nat} (hi : i < 3) : (gcells bd vs now)[1 + i]? = some (vs i) := by
  match i, hi with
  | 0, _ | 1, _ | 2, _ => rfl
theorem gcells_set (bd : Nat) (vs : Nat → Value) (now : Int) {i : Nat} (hi : i < 3) (v : Value) : (gcells bd vs now).set (1 + i) v = gcells bd (updV vs i v) now := by
  match i, hi with
  | 0, _ | 1, _ | 2, _ => rfl
end Go.Proofs.YtfihmpkkpgmdhaaGreatDoor

/-
  What comes in, as a walk wants it: slices of bytes, slices of structs, out of the reading of an argument.
-/
namespace Go.Proofs.YtfihmpkkpgmdhaaGreatDoor
set_option linter.unusedSimpArgs false
set_option linter.unusedVariables false
open Go.RowKit Go.ChangeShapes Go.WideShapes Go.Deep

theorem list_of_forall {α : Type} {R : Nat → α → Prop} : ∀ (n : Nat), (∀ i, i < n → ∃ x, R i x) → ∃ L : List α, L.length = n ∧ ∀ i x, L[i]? = some x → R i x
  | 0, _ => ⟨[], rfl, by simp⟩
  | n + 1, h => by
    obtain ⟨L, hL, hR⟩ := list_of_forall n fun i hi => h i (by omega)
    obtain ⟨x, hx⟩ := h n (by omega)
    refine ⟨L ++ [x], by simp [hL], fun i y hy => ?_⟩
    rw [List.getElem?_append] at hy
    split at hy
    · exact hR i y hy
    · have e : i = n := by
        have := (List.getElem?_eq_some_iff.1 hy).1
        simp at this; omega
      subst e
      rw [hL, Nat.sub_self] at hy
      simp at hy
      subst hy
      exact hx
theorem addr_of_cell {w : World} {a : Addr} {v : Value} (h : w.cell? a = some v) : a = ⟨a.block, a.off, none⟩ := by
  obtain ⟨b, o, s⟩ := a
  cases s with
  | none => rfl
  | some s =>
    simp only [World.cell?] at h
    split at h <;> simp at h

section
variable {H : Type} {enc : TypeId × Value → H} {P : Program} {w : World} {base : Nat} {spare : Nat → Bool} {held : Bool}
/-- A slice of structs, each field of one cell. -/
theorem open_slice_fields {t e : TypeId} {fs : Array Field} {fuel : Nat} {cs : List Value} {x : DataW H × List MemPlace} (ht : P.underlying t = some (.slice e)) (he : P.underlying e = some (.struct fs))
    (hone : oneCellFields P fs = true) (hC : P.cellsOf e = fs.size) (h : DataW.trod enc P w base spare held fuel t cs = some x) :
    cs = [.slice none 0 0] ∨
    ∃ (a : Addr) (len cap : Nat), cs = [.slice (some a) len cap] ∧ len ≤ cap ∧ cap ≤ maxLen ∧
      ∀ i, i < len → ∃ n : Nat, ∀ (j : Nat) (f : Field), fs[j]? = some f → ∃ (v : Value) (y : DataW H × List MemPlace), w.cell? (a.add (i * fs.size + j)) = some v ∧ DataW.trod enc P w base spare held n f.type [v] = some y := by
  rcases open_slice ht h with h0 | ⟨a, len, cap, m, n, D, Pl, hcs, hb, hl, hm, hmm, hx, hi⟩
  · exact .inl h0.1
  · refine .inr ⟨a, len, cap, hcs, hl, hm, fun i him => ?_⟩
    obtain ⟨cs', hc, ht'⟩ := hi i (by rw [hmm]; split <;> omega)
    rw [hC] at hc
    obtain ⟨ys, n', hn', hy, hlen, hyl, hf⟩ := DataW.trod_struct he ht'
    obtain ⟨_, hcl, hat⟩ := World.cells?_some hc
    refine ⟨n', fun j f hj => ?_⟩
    obtain ⟨ho, hk⟩ := hone_of hone j f hj
    have hjl : j < fs.size := (Array.getElem?_eq_some_iff.1 hj).1
    have hcell := hat j hjl
    have hv : cs'[j]? = some (cs'[j]'(by omega)) := List.getElem?_eq_getElem (by omega)
    have h1 := hf j f hj
    rw [ho, hk] at h1
    have hone' : (cs'.drop j).take 1 = [cs'[j]'(by omega)] := by
      rw [List.drop_eq_getElem_cons (by omega)]
      rfl
    rw [hone'] at h1
    have hys : ys[j]? = some (ys[j]'(by omega)) := List.getElem?_eq_getElem (by omega)
    refine ⟨_, _, ?_, h1.trans hys⟩
    rw [← Go.Deep.add_add, hcell, hv]
/-- A slice of bytes. -/
theorem bytesAt_of {fuel : Nat} {v : Value} {y : DataW H × List MemPlace} {t e : TypeId} (ht : P.underlying t = some (.slice e)) (he : P.underlying e = some (.int .u8)) (hC : P.cellsOf e = 1) (h : DataW.trod enc P w base spare held fuel t [v] = some y) : ∃ l, BytesAt w v l := by
  rcases open_ints ht he hC h with ⟨hcs, _⟩ | ⟨a, l, c, zs, hcs, _, hl, hm, hz, _, hcell, hwz⟩
  · simp at hcs
    exact ⟨[], none, 0, hcs, Nat.le_refl _, Nat.zero_le _, fun _ => rfl, fun h => absurd rfl h⟩
  · simp at hcs
    subst hcs
    have hzl : l ≤ zs.length := by
      have : zs.length = (if spare a.block then c else l) ∨ zs.length = c := by
        first | exact .inr (by simpa using hz) | exact .inl (by simpa using hz)
      rcases this with h | h
      · rw [h]; split <;> omega
      · omega
    refine ⟨(zs.take l).map fun n => UInt8.ofNat n.toNat, some a, c, by simp; omega, by simp; omega, hm, by simp, fun hne => ?_⟩
    have hl0 : 0 < l := by
      rcases Nat.eq_zero_or_pos l with h | h
      · subst h; simp at hne
      · exact h
    have hc0 := hcell 0 (by omega)
    simp only [Nat.mul_one, Addr.add_zero'] at hc0
    have ea := addr_of_cell hc0
    refine ⟨a.block, a.off, by rw [← ea], fun j u hu => ?_⟩
    have hj : j < l := by
      have := (List.getElem?_eq_some_iff.1 hu).1
      simp [bvs] at this; omega
    have hcj := hcell j (by omega)
    rw [ea, Addr.add_lit] at hcj
    rw [hcj]
    have hzj : zs[j]? = some (zs.getD j 0) := by simp [show j < zs.length by omega]
    have hwf := hwz (zs.getD j 0) (List.mem_of_getElem? hzj)
    have hb := bounds_u8 hwf
    have : (bvs ((zs.take l).map fun n => UInt8.ofNat n.toNat))[j]? = some (bv (UInt8.ofNat (zs.getD j 0).toNat)) := by
      simp [bvs, List.getElem?_map, List.getElem?_take, hj, show j < zs.length by omega]
    rw [this] at hu
    rw [← hu]
    congr 2
    simp only [bv, UInt8.toNat_ofNat']
    omega
end
end Go.Proofs.YtfihmpkkpgmdhaaGreatDoor

/-
  What comes in, as a walk wants it: structs of integers, and slices of them, out of the reading of an argument.
-/
namespace Go.Proofs.YtfihmpkkpgmdhaaGreatDoor
set_option linter.unusedSimpArgs false
set_option linter.unusedVariables false
open Go.RowKit Go.ChangeShapes Go.WideShapes Go.Deep

/-- Nothing but integers, cell by cell. -/
def flat (P : Program) : Nat → TypeId → Bool
  | 0, _ => false
  | d + 1, t => match P.underlying t with
    | some (.int .i64) => true
    | some (.struct fs) => fs.all (fun f => flat P d f.type) && (List.range (P.cellsOf t)).all fun i => fs.any fun f => decide (f.offset ≤ i) && decide (i < f.offset + P.cellsOf f.type)
    | _ => false
/-- Of an int. -/
def I64' (n : Int) : Prop := -9223372036854775808 ≤ n ∧ n ≤ 9223372036854775807
theorem i64'_of {n : Int} (h : (Lit.int .i64 n).wf = true) : I64' n := by
  have := bounds_i64 h
  unfold I64'
  omega
def ivs (z : List Int) : List Value := z.map (.int .i64)
section
variable {H : Type} {enc : TypeId × Value → H} {P : Program} {w : World} {base : Nat} {spare : Nat → Bool} {held : Bool}
theorem flat_ints : ∀ (d : Nat) (t : TypeId), flat P d t = true → ∀ {fuel : Nat} {cs : List Value} {x : DataW H × List MemPlace}, DataW.trod enc P w base spare held fuel t cs = some x → ∀ v ∈ cs, ∃ n, v = .int .i64 n ∧ I64' n := by
  intro d
  induction d with
  | zero => intro t h; simp [flat] at h
  | succ d ih =>
    intro t h fuel cs x hx v hv
    unfold flat at h
    split at h
    · rename_i ht
      obtain ⟨n, rfl, _, hw⟩ := DataW.trod_int ht hx
      simp at hv
      subst hv
      exact ⟨n, rfl, i64'_of hw⟩
    · rename_i fs ht
      simp only [Bool.and_eq_true, Array.all_eq_true_iff_forall_mem, List.all_eq_true, List.mem_range, Array.any_eq_true, decide_eq_true_eq] at h
      obtain ⟨h1, h2⟩ := h
      obtain ⟨xs, n, _, _, hl, hxl, hf⟩ := DataW.trod_struct ht hx
      obtain ⟨i, hi, rfl⟩ := List.mem_iff_getElem.1 hv
      obtain ⟨j, hj, h3, h4⟩ := h2 i (by omega)
      have hxj : xs[j]? = some (xs[j]'(by omega)) := List.getElem?_eq_getElem (by omega)
      have hfj := hf j fs[j] (Array.getElem?_eq_getElem hj)
      rw [hxj] at hfj
      refine ih _ (h1 _ (Array.getElem_mem hj)) hfj _ ?_
      refine List.mem_iff_getElem?.2 ⟨i - fs[j].offset, ?_⟩
      rw [List.getElem?_take, if_pos (by omega), List.getElem?_drop, show fs[j].offset + (i - fs[j].offset) = i by omega]
      exact List.getElem?_eq_getElem hi
    · cases h
theorem ints_of : ∀ (cs : List Value), (∀ v ∈ cs, ∃ n, v = .int .i64 n ∧ I64' n) → ∃ z : List Int, cs = ivs z ∧ ∀ n ∈ z, I64' n
  | [], _ => ⟨[], rfl, by simp⟩
  | v :: cs, h => by
    obtain ⟨n, rfl, hn⟩ := h v (by simp)
    obtain ⟨z, rfl, hz⟩ := ints_of cs fun v hv => h v (by simp [hv])
    exact ⟨n :: z, rfl, by simpa using ⟨hn, hz⟩⟩
/-- A struct of integers, by value. -/
theorem agg_of {d : Nat} {t : TypeId} {fuel : Nat} {cs : List Value} {x : DataW H × List MemPlace} (hf : flat P d t = true) (hC : ∀ {fuel : Nat} {cs : List Value} {x : DataW H × List MemPlace}, DataW.trod enc P w base spare held fuel t cs = some x → cs.length = P.cellsOf t) (h : DataW.trod enc P w base spare held fuel t cs = some x) : ∃ z : List Int, cs = ivs z ∧ z.length = P.cellsOf t ∧ ∀ n ∈ z, I64' n := by
  obtain ⟨z, rfl, hz⟩ := ints_of cs (flat_ints d t hf h)
  exact ⟨z, rfl, by have := hC h; simpa [ivs] using this, hz⟩
theorem flatMap_get {C : Nat} : ∀ (zs : List (List Int)), (∀ z ∈ zs, z.length = C) → ∀ (i j : Nat), j < C → (zs.flatMap ivs)[i * C + j]? = (zs[i]?).bind fun z => (ivs z)[j]? := by
  intro zs
  induction zs with
  | nil => intro _ i j _; simp
  | cons z zs ih =>
    intro h i j hj
    have hz : (ivs z).length = C := by simp [ivs, h z (by simp)]
    rw [List.flatMap_cons]
    cases i with
    | zero => rw [List.getElem?_append_left (by omega)]; simp
    | succ i =>
      rw [List.getElem?_append_right (by rw [hz, Nat.add_mul]; omega), hz, show (i + 1) * C + j - C = i * C + j by rw [Nat.add_mul]; omega, ih (fun z hz => h z (by simp [hz])) i j hj]
      simp
/-- A slice of structs of integers. -/
theorem row_of {d : Nat} {t e : TypeId} {fuel : Nat} {a : Option Addr} {len cap C : Nat} {x : DataW H × List MemPlace} (ht : P.underlying t = some (.slice e)) (hf : flat P d e = true) (hC : P.cellsOf e = C) (hC0 : 0 < C) (h : DataW.trod enc P w base spare held fuel t [.slice a len cap] = some x) :
    ∃ zs : List (List Int), zs.length = len ∧ (∀ z ∈ zs, z.length = C ∧ ∀ n ∈ z, I64' n) ∧ RowAt w (.slice a len cap) len (zs.flatMap ivs) := by
  rcases open_slice ht h with ⟨h0, _⟩ | ⟨a', len', cap', m, n, D, Pl, hcs, hb, hl, hm, hmm, hx, hi⟩
  · simp at h0
    obtain ⟨rfl, rfl, rfl⟩ := h0
    exact ⟨[], rfl, by simp, none, 0, rfl, Nat.le_refl _, Nat.zero_le _, fun _ => rfl, fun h => absurd rfl h⟩
  · simp at hcs
    obtain ⟨rfl, rfl, rfl⟩ := hcs
    rw [hC] at hi
    obtain ⟨zs, hzl, hR⟩ := list_of_forall (R := fun i (z : List Int) => (z.length = C ∧ ∀ n ∈ z, I64' n) ∧ ∀ j v, (ivs z)[j]? = some v → w.cell? (a'.add (i * C + j)) = some v) len (fun i hil => by
      obtain ⟨cs', hc, ht'⟩ := hi i (by rw [hmm]; split <;> omega)
      obtain ⟨_, hcl, hat⟩ := World.cells?_some hc
      obtain ⟨z, rfl, hz⟩ := ints_of cs' (flat_ints d e hf ht')
      have hzl : z.length = C := by simpa [ivs] using hcl
      refine ⟨z, ⟨hzl, hz⟩, fun j v hv => ?_⟩
      have hj : j < C := by
        have := (List.getElem?_eq_some_iff.1 hv).1
        simp [ivs] at this; omega
      rw [← Go.Deep.add_add, hat j hj, hv])
    refine ⟨zs, hzl, fun z hz => ?_, some a', cap, rfl, hl, hm, (fun e => by cases e), fun hn0 => ?_⟩
    · obtain ⟨i, hi⟩ := List.mem_iff_getElem?.1 hz
      exact (hR i z hi).1
    · have hzu : ∀ z ∈ zs, z.length = C := fun z hz => by
        obtain ⟨i, hi⟩ := List.mem_iff_getElem?.1 hz
        exact (hR i z hi).1.1
      obtain ⟨z0, hz0⟩ : ∃ z, zs[0]? = some z := ⟨_, List.getElem?_eq_getElem (by omega)⟩
      have hc0 := (hR 0 z0 hz0).2 0 ((ivs z0)[0]'(by simp [ivs, (hR 0 z0 hz0).1.1, hC0])) (List.getElem?_eq_getElem _)
      simp only [Nat.zero_mul, Nat.zero_add, Addr.add_zero'] at hc0
      have ea := addr_of_cell hc0
      refine ⟨a'.block, a'.off, by rw [← ea], fun j u hu => ?_⟩
      have hj : j / C * C + j % C = j := Nat.div_add_mod' j C
      rw [← hj, flatMap_get zs hzu _ _ (Nat.mod_lt _ hC0)] at hu
      cases hq : zs[j / C]? with
      | none => rw [hq] at hu; cases hu
      | some z =>
        rw [hq] at hu
        have hcell := (hR _ z hq).2 (j % C) u hu
        rw [hj, ea, Addr.add_lit] at hcell
        exact hcell
end
end Go.Proofs.YtfihmpkkpgmdhaaGreatDoor

/-
  The desk: what of the library's own tables stands in memory; numbers as texts.
-/
namespace Go.Proofs.YtfihmpkkpgmdhaaGreatDoor
set_option maxRecDepth 100000
set_option linter.unusedSimpArgs false
set_option linter.unusedVariables false
set_option linter.unnecessarySimpa false
open Go.RowKit

theorem var_to {P : Program} {w w' : World} {n : String} {cs : Array Value} (hb : ∀ k, k < w.heap.size → w'.heap[k]? = w.heap[k]?) (h : w.var? P n = some cs) : w'.var? P n = some cs := by
  unfold World.var? at *
  cases hg : P.globalNamed n with
  | none => rw [hg] at h; cases h
  | some g =>
    rw [hg] at h
    simp only [Option.bind] at h ⊢
    have hlt : g < w.heap.size := by
      rcases Nat.lt_or_ge g w.heap.size with h' | h'
      · exact h'
      · rw [Array.getElem?_eq_none h'] at h; cases h
    rw [hb g hlt]
    exact h
/-- What of the library's own variables a desk reads. -/
structure Laid (w : World) : Prop where
  pow : Lib.TabIs Tryz.prog w "internal/strconv.uint64pow10" .u64 Lib.pow10Tab
  syn : ∃ (t : TypeId) (p : Value), w.var? Tryz.prog "strconv.ErrSyntax" = some #[.iface t p]
  rng : ∃ (t : TypeId) (p : Value), w.var? Tryz.prog "strconv.ErrRange" = some #[.iface t p]
  max : ∃ m : Int, w.cell? ⟨0, 0, none⟩ = some (.int .i64 m)
theorem Laid.to {w w' : World} (h : Laid w) (hb : ∀ k, k < w.heap.size → w'.heap[k]? = w.heap[k]?) : Laid w' := by
  obtain ⟨h1, ⟨t2, p2, h2⟩, ⟨t3, p3, h3⟩, m, h4⟩ := h
  refine ⟨var_to hb h1, ⟨t2, p2, var_to hb h2⟩, ⟨t3, p3, var_to hb h3⟩, m, ?_⟩
  rw [World.cell?_of_block (hb 0 (block_lt_of_cell h4))]
  exact h4
theorem Laid.below {w w' : World} (h : Laid w) (hb : Below w.heap.size w w') : Laid w' := h.to hb.block
theorem Laid.alloc {w : World} (h : Laid w) (o : Obj) : Laid (w.alloc o) := h.to fun k hk => Below.heap_alloc w o k hk
theorem Laid.drew {w : World} (h : Laid w) : Laid w.drew := h.to fun _ _ => rfl
/-- All that there was when the call began, with the library's variables. -/
def lay (w0 : World) : HP := HP.wi (Laid w0) (old w0)
theorem lay_laid {w w0 : World} {R : HP} (h : Holds w (lay w0 * R)) : Laid w := by
  obtain ⟨h1, h2⟩ := wi_open h
  exact h1.to h2.left.block
theorem lay_of {w w0 : World} {R : HP} (h : Holds w (lay w0 * R)) : Holds w (old w0 * R) := (wi_open h).2
theorem lay_start {w : World} (h : Laid w) : Holds w (lay w * HP.emp) := wi_close h ((emp_mul Holds.old).eq (HP.comm _ _))
theorem lay_row {w w0 : World} {v : Value} {n : Nat} {cs : List Value} {R : HP} (h : RowAt w0 v n cs) (hh : Holds w (lay w0 * R)) : RowAt w v n cs := h.to (lay_of hh).left.block

theorem strOf_append (a b : List UInt8) : strOf a ++ strOf b = strOf (a ++ b) := by
  apply ByteArray.ext
  simp [strOf, ByteArray.data_append]
theorem strOf_size (l : List UInt8) : (strOf l).size = l.length := by simp [strOf, ByteArray.size]
theorem strOf_list (s : ByteArray) : strOf s.data.toList = s := by apply ByteArray.ext; simp [strOf]
theorem strOf_data (l : List UInt8) : (strOf l).data.toList = l := by simp [strOf]
theorem strOf_inj {a b : List UInt8} (h : strOf a = strOf b) : a = b := by rw [← strOf_data a, h, strOf_data]
theorem itoa_sl (n : Int) (w : World) (hl : Laid w) (h0 : I64' n) : Calls Tryz.prog 60 #[.int .i64 n] w fun e w' => e = .returned (.string (strOf (Lib.itoa n))) ∧ Below w.heap.size w w' :=
  (Tryz.strconv_Itoa n h0.1 h0.2 w hl.pow).mono fun e w' ⟨he, k, os, hw⟩ => ⟨he, hw ▸ Go.Proofs.below_grown w k os⟩
theorem num_sl (n : Int) (w : World) (hl : Laid w) (h0 : I64' n) : Calls Tryz.prog 45 #[.int .i64 n] w fun e w' => e = .returned (.string (strOf (Lib.itoa n))) ∧ Below w.heap.size w w' := by
  go_enter Tryz.func45, Tryz.ntmps45
  go_wp2_with (go_at_call 60; refine (itoa_sl n _ hl h0).mono ?_; rintro e w1 ⟨rfl, hb⟩)
  go_ret
  exact ⟨rfl, hb⟩
theorem rnum_sl (n : Int) (w : World) (hl : Laid w) (h0 : I64' n) : Calls Tryz.prog 32 #[.int .i64 n] w fun e w' => e = .returned (.string (strOf (Lib.itoa n))) ∧ Below w.heap.size w w' := by
  go_enter Tryz.func32, Tryz.ntmps32
  go_wp2_with (go_at_call 60; refine (itoa_sl n _ hl h0).mono ?_; rintro e w1 ⟨rfl, hb⟩)
  go_ret
  exact ⟨rfl, hb⟩
theorem nums_take (l : List Int) (i : Nat) (n : Int) (h : l[i]? = some n) : nums (l.take (i + 1)) = nums (l.take i) ++ (32 :: Lib.itoa n) := by
  rw [List.take_add_one, h, nums_append]
  simp [nums]
theorem nums_le {l : List Int} (h : ∀ n ∈ l, I64' n) : (nums l).length ≤ 22 * l.length := by
  induction l with
  | nil => exact Nat.le_refl _
  | cons n l ih =>
    have h1 := h n (List.mem_cons_self ..)
    have h2 := Lib.itoa_length_le n h1.1 h1.2
    have ih := ih fun x hx => h x (List.mem_cons_of_mem _ hx)
    rw [nums_cons, List.length_append, List.length_cons, List.length_cons]
    omega
end Go.Proofs.YtfihmpkkpgmdhaaGreatDoor

/-
  Texts of numbers: desk.nums, vergersref.list, desk.job.
-/
namespace Go.Proofs.YtfihmpkkpgmdhaaGreatDoor
set_option maxRecDepth 100000
set_option linter.unusedSimpArgs false
set_option linter.unusedVariables false
set_option linter.unnecessarySimpa false
open Go.RowKit
set_option maxHeartbeats 1000000 in
theorem nums_sl (v : Value) (l : List Int) (w : World) (hl : Laid w) (hv : RowAt w v l.length (ivs l)) (hn : l.length ≤ 100000) (hi : ∀ n ∈ l, I64' n) :
    Calls Tryz.prog 50 #[v] w fun e w' => e = .returned (.string (strOf (nums l))) ∧ Below w.heap.size w w' := by
  obtain ⟨a, c, rfl, c1, c2⟩ := hv.shape
  have HV := Lib.hid hv; have HL := Lib.hid hl; have HI := Lib.hid hi
  clear hv hl hi
  go_enter Tryz.func50, Tryz.ntmps50
  go_wp2
  go_loopw [3, 8] (fun s i wr => ∃ k : Nat, k ≤ l.length ∧ i = .int .i64 k ∧ s = .string (strOf (nums (l.take k))) ∧ Below w.heap.size w wr) (fun _ i _ => l.length - (intOf i).toNat)
  case atStart => exact ⟨0, by omega, rfl, rfl, Below.refl _ _⟩
  case round =>
    obtain ⟨k, hk, rfl, rfl, hb⟩ := hrel
    by_cases hlt : k < l.length
    · obtain ⟨x, hx⟩ : ∃ x, l[k]? = some x := ⟨_, List.getElem?_eq_getElem hlt⟩
      obtain ⟨g, off, cx, e, -, -, hc⟩ := HV.out.get (by omega)
      simp only [Value.slice.injEq] at e
      obtain ⟨rfl, -, rfl⟩ := e
      have a0 : w.cell? ⟨g, off + k, none⟩ = some (.int .i64 x) := hc k _ (by simp [ivs, hx])
      have a1 : wr.cell? ⟨g, off + k, none⟩ = some (.int .i64 x) := by rw [hb.cell (block_lt_of_cell a0)]; exact a0
      clear hc a0
      have hx0 := HI.out x (List.mem_of_getElem? hx)
      have hle : (nums (l.take k)).length ≤ 22 * k := by
        have := nums_le (l := l.take k) fun n hn => HI.out n (List.mem_of_mem_take hn)
        rw [List.length_take] at this; omega
      have hlx := Lib.itoa_length_le x hx0.1 hx0.2
      have hst := nums_take l k x hx
      have HB := Lib.hid hb; have HX := Lib.hid hx; have HS := Lib.hid hst; clear hx hst
      obtain ⟨S, hS⟩ : ∃ S, strOf (nums (l.take k)) = S := ⟨_, rfl⟩
      have hSs : S.size ≤ 22 * k := by rw [← hS, strOf_size]; exact hle
      obtain ⟨T, hT⟩ : ∃ T, strOf (Lib.itoa x) = T := ⟨_, rfl⟩
      have hTs : T.size ≤ 21 := by rw [← hT, strOf_size]; exact hlx
      have hst2 : strOf (nums (l.take (k + 1))) = S ++ ((⟨#[32]⟩ : ByteArray) ++ T) := by
        rw [HS.out, ← strOf_append, hS, ← hT, show (⟨#[32]⟩ : ByteArray) = strOf [32] from rfl, strOf_append]; rfl
      have HS2 := Lib.hid hst2; clear hst2 hle hlx
      rw [hS]
      have HSd := Lib.hid hS; clear hS
      obtain ⟨wo, rfl⟩ : ∃ wo : World, wo = wr := ⟨_, rfl⟩
      go_wp2_with (go_at_call 45; refine (num_sl x _ (HL.out.below HB.out) hx0).mono ?_; rw [hT]; rintro e w1 ⟨rfl, hb1⟩)
      go_roundw
      case rel => exact ⟨k + 1, by omega, by go_num, by rw [HS2.out], HB.out.trans (hb1.mono HB.out.size)⟩
      case measure => simp [intOf]; omega
    · obtain rfl : k = l.length := by omega
      rw [List.take_length] at *
      go_wp2
      go_ret
      exact ⟨rfl, hb⟩
set_option maxHeartbeats 1000000 in
theorem rlist_sl (s0 : List UInt8) (v : Value) (l : List Int) (w : World) (hs0 : s0.length ≤ 1000000000000) (hl : Laid w) (hv : RowAt w v l.length (ivs l)) (hn : l.length ≤ 100000) (hi : ∀ n ∈ l, I64' n) :
    Calls Tryz.prog 35 #[.string (strOf s0), v] w fun e w' => e = .returned (.string (strOf (s0 ++ nums l))) ∧ Below w.heap.size w w' := by
  obtain ⟨a, c, rfl, c1, c2⟩ := hv.shape
  have HV := Lib.hid hv; have HL := Lib.hid hl; have HI := Lib.hid hi
  clear hv hl hi
  go_enter Tryz.func35, Tryz.ntmps35
  go_wp2
  go_loopw [0, 5] (fun s i wr => ∃ k : Nat, k ≤ l.length ∧ i = .int .i64 k ∧ s = .string (strOf (s0 ++ nums (l.take k))) ∧ Below w.heap.size w wr) (fun _ i _ => l.length - (intOf i).toNat)
  case atStart => exact ⟨0, by omega, rfl, by simp [nums], Below.refl _ _⟩
  case round =>
    obtain ⟨k, hk, rfl, rfl, hb⟩ := hrel
    by_cases hlt : k < l.length
    · obtain ⟨x, hx⟩ : ∃ x, l[k]? = some x := ⟨_, List.getElem?_eq_getElem hlt⟩
      obtain ⟨g, off, cx, e, -, -, hc⟩ := HV.out.get (by omega)
      simp only [Value.slice.injEq] at e
      obtain ⟨rfl, -, rfl⟩ := e
      have a0 : w.cell? ⟨g, off + k, none⟩ = some (.int .i64 x) := hc k _ (by simp [ivs, hx])
      have a1 : wr.cell? ⟨g, off + k, none⟩ = some (.int .i64 x) := by rw [hb.cell (block_lt_of_cell a0)]; exact a0
      clear hc a0
      have hx0 := HI.out x (List.mem_of_getElem? hx)
      have hle : (nums (l.take k)).length ≤ 22 * k := by
        have := nums_le (l := l.take k) fun n hn => HI.out n (List.mem_of_mem_take hn)
        rw [List.length_take] at this; omega
      have hlx := Lib.itoa_length_le x hx0.1 hx0.2
      have hst := nums_take l k x hx
      have HB := Lib.hid hb; have HX := Lib.hid hx; have HS := Lib.hid hst; clear hx hst
      obtain ⟨S, hS⟩ : ∃ S, strOf (s0 ++ nums (l.take k)) = S := ⟨_, rfl⟩
      have hSs : S.size ≤ 1000000000000 + 22 * k := by rw [← hS, strOf_size, List.length_append]; omega
      obtain ⟨T, hT⟩ : ∃ T, strOf (Lib.itoa x) = T := ⟨_, rfl⟩
      have hTs : T.size ≤ 21 := by rw [← hT, strOf_size]; exact hlx
      have hst2 : strOf (s0 ++ nums (l.take (k + 1))) = S ++ ((⟨#[32]⟩ : ByteArray) ++ T) := by
        rw [HS.out, ← List.append_assoc, ← strOf_append, hS, ← hT, show (⟨#[32]⟩ : ByteArray) = strOf [32] from rfl, strOf_append]; rfl
      have HS2 := Lib.hid hst2; clear hst2 hle hlx
      rw [hS]
      have HSd := Lib.hid hS; clear hS
      obtain ⟨wo, rfl⟩ : ∃ wo : World, wo = wr := ⟨_, rfl⟩
      go_wp2_with (go_at_call 32; refine (rnum_sl x _ (HL.out.below HB.out) hx0).mono ?_; rw [hT]; rintro e w1 ⟨rfl, hb1⟩)
      go_roundw
      case rel => exact ⟨k + 1, by omega, by go_num, by rw [HS2.out], HB.out.trans (hb1.mono HB.out.size)⟩
      case measure => simp [intOf]; omega
    · obtain rfl : k = l.length := by omega
      rw [List.take_length] at *
      go_wp2
      go_ret
      exact ⟨rfl, hb⟩
theorem ivs_row {w : World} {l : List Int} {g : Nat} (hg : w.heap.size = g) (hl : l.length ≤ 1000) (cs : Array Value) (hc : cs = (ivs l).toArray) (ty : TypeId) : RowAt (w.alloc (.cells cs ty)) (.slice (some ⟨g, 0, none⟩) l.length l.length) l.length (ivs l) := by
  subst hc; subst hg
  refine ⟨_, _, rfl, Nat.le_refl _, by simp only [maxLen]; omega, by simp, fun _ => ⟨_, _, rfl, fun j u hj => ?_⟩⟩
  rw [Nat.zero_add, World.cell?_alloc_mark]
  simpa using hj
theorem kjob_sl (j : Job) (w : World) (hl : Laid w) (hi : ∀ n ∈ [j.st, j.wk, j.tr, j.un], I64' n) :
    Calls Tryz.prog 48 #[j.val] w fun e w' => e = .returned (.string (strOf (jobTxt j))) ∧ Below w.heap.size w w' := by
  obtain ⟨a, b, c, d⟩ := j
  have HL := Lib.hid hl; have HI := Lib.hid hi; clear hl hi
  show Calls Tryz.prog 48 #[.agg #[.int .i64 a, .int .i64 b, .int .i64 c, .int .i64 d]] w _
  go_enter Tryz.func48, Tryz.ntmps48
  go_wp2_with (go_at_call 50; refine (nums_sl _ [a, b, c, d] _ ((HL.out.alloc _).alloc _) (ivs_row (by simp) (by simp) _ rfl _) (by simp) HI.out).mono ?_; rintro e w1 ⟨rfl, hb1⟩)
  go_ret
  exact ⟨rfl, (((Below.refl _ _).alloc (Nat.le_refl _) _).alloc (by simp) _).trans (hb1.mono (by simp <;> omega))⟩
end Go.Proofs.YtfihmpkkpgmdhaaGreatDoor

/-
  A strings.Builder that lies within a desk: written, read, begun anew.
-/
namespace Go.Proofs.YtfihmpkkpgmdhaaGreatDoor
set_option maxRecDepth 100000
set_option linter.unusedSimpArgs false
set_option linter.unusedVariables false
set_option linter.unnecessarySimpa false
open Go.RowKit
theorem check_used (b : Nat) (w : World) (h0 : w.cell? ⟨b, 0, none⟩ = some (.pointer (some ⟨b, 0, none⟩))) :
    Calls Tryz.prog 81 #[.pointer (some ⟨b, 0, none⟩)] w fun e w' => e = .returned (.tuple #[]) ∧ w' = w := by
  obtain ⟨j, hj, _⟩ := Option.map_eq_some_iff.1 (show (Tryz.prog.info? 44).map (·.size) = some 2 by kernel_rfl)
  go_enter Tryz.func81, Tryz.ntmps81
  go_wp2
  rw [Lib.run_neq_ptr_same w _ Tryz.underlying41 hj]
  go_wp2
  go_end0
  exact ⟨rfl, rfl⟩
set_option maxHeartbeats 1000000 in
theorem check_fresh (b : Nat) (w : World) (h0 : w.cell? ⟨b, 0, none⟩ = some (.pointer none)) (hsh : w.shape? b = some (46, 3)) (hfz : w.frozen? ⟨b, 0, none⟩ = false) :
    Calls Tryz.prog 81 #[.pointer (some ⟨b, 0, none⟩)] w fun e w' => e = .returned (.tuple #[]) ∧ w' = w.setCell ⟨b, 0, none⟩ (.pointer (some ⟨b, 0, none⟩)) := by
  obtain ⟨j, hj, hjs⟩ := Option.map_eq_some_iff.1 (show (Tryz.prog.info? 44).map (·.size) = some 2 by kernel_rfl)
  have hlies : liesAt Tryz.prog Tryz.prog.depth 46 (3 / Tryz.prog.cellsOf 46) 0 44 1 = true := by kernel_rfl
  go_enter Tryz.func81, Tryz.ntmps81
  go_wp2
  rw [Lib.run_to_unsafe w ⟨b, 0, none⟩ Tryz.underlying41 Tryz.underlying177 hj (by rw [hjs]; decide) hsh (show (0 : Nat) < 3 by decide)]
  simp only [Result.andThen]
  rw [Oper.upon_value]
  go_wp2
  rw [run_callFunc_extern Tryz.func110 (by kernel_rfl) (by kernel_rfl) (by kernel_rfl) (e := Extern.AbiNoEscape.same) (by kernel_rfl)]
  rw [Lib.run_noEscape]
  simp only [Result.andThen]
  rw [Oper.upon_value]
  go_wp2
  rw [Lib.run_from_unsafe w ⟨b, 0, none⟩ Tryz.underlying177 Tryz.underlying41 hj hsh hlies]
  simp only [Result.andThen]
  rw [Oper.upon_value]
  go_wp2
  go_end0
  exact ⟨rfl, rfl⟩
/-- append of a string to bytes that one owns. -/
theorem run_append_str {w : World} (ty : TypeId) {v : Value} {l : List UInt8} (s : ByteArray) (hv : OwnB w v l) (hlen : l.length + s.size ≤ 140737488355328) :
    ∃ v' w', (Builtin.append_ #[42, 9] ty #[v, .string s]).run Tryz.prog w = .ok v' w' ∧ OwnB w' v' (l ++ s.data.toList) ∧ Upd (fun k => v.ownBlock = some k) w w' ∧ (∀ k, v'.ownBlock = some k → v.ownBlock = some k ∨ w.heap.size ≤ k) := by
  obtain ⟨i, hi, hz, hsz, hby⟩ := info_parts Tryz.infoU8
  have hml : maxLen = 9223372036854775807 := rfl
  have hss : s.data.toList.length = s.size := rfl
  have hsc : Lib.strCells s = bvs s.data.toList := rfl
  rcases hv with ⟨rfl, rfl⟩ | ⟨g, cap, cur, rfl, hb, h1, h2, h3, h4⟩
  · obtain ⟨v', w', hr, how, hg, _⟩ := Lib.run_append_own_string (P := Tryz.prog) w w.heap.size 42 9 ty 5 i Tryz.underlying42 Tryz.underlying9 hi hz hsz hby (.slice none 0 0) 0 [] ⟨rfl, .inl ⟨rfl, rfl⟩⟩ s (by simp at hlen; omega) (by simp at hlen; omega) (Nat.le_refl _)
    refine ⟨v', w', hr, ?_, Upd.of_grown hg, fun k hk => .inr ?_⟩
    · rcases how.2 with ⟨rfl, hn⟩ | ⟨g, cap, cur, rfl, hb, hg', hnc, hcm, hcs, ht⟩
      · refine .inl ⟨rfl, ?_⟩
        rw [List.nil_append]
        exact List.length_eq_zero_iff.1 (by rw [hss]; omega)
      · refine .inr ⟨g, cap, cur.toList, by simp, by simpa [BlockAt] using hg', by simpa using hnc, by simp; omega, hcm, ?_⟩
        rw [List.nil_append, ← hsc]
        simpa [hss] using ht
    · rcases how.2 with ⟨rfl, hn⟩ | ⟨g, cap, cur, rfl, hb, _⟩
      · simp [Value.ownBlock] at hk
      · simp [Value.ownBlock] at hk; omega
  · by_cases hroom : l.length + s.size ≤ cap
    · have hr := Lib.run_append_room_string (P := Tryz.prog) w 42 9 ty 5 i Tryz.underlying42 Tryz.underlying9 hi hsz g l.length cap cur.toArray hb s hroom (by simp; omega)
      refine ⟨_, _, hr, .inr ⟨g, cap, (bvs l ++ bvs s.data.toList ++ cur.drop (l.length + s.size)), by simp, ?_, by simpa using hroom, ?_, h3, ?_⟩, ?_, fun k hk => .inl hk⟩
      · have := hb.setRow (cur.take l.length ++ bvs s.data.toList ++ cur.drop (l.length + s.size))
        rw [h4] at this
        simpa [h4, hsc] using this
      · simp; omega
      · rw [bvs_append, List.take_append_of_le_length (by simp)]
        exact List.take_of_length_le (by simp)
      · exact Upd.of_grown (grown_setRow (grown_refl w _) _)
    · have holds : ∀ j u, (bvs l)[j]? = some u → w.cell? ((⟨g, 0, none⟩ : Addr).add j) = some u := fun j u hu => by
        rw [Addr.add_lit, Nat.zero_add]
        refine hb.cell j u ?_
        rw [← h4, List.getElem?_take] at hu
        split at hu
        · exact hu
        · cases hu
      have hr := Lib.run_append_grow_string (P := Tryz.prog) w 42 9 ty 5 i (.int .u8 0) Tryz.underlying42 Tryz.underlying9 hi hz ⟨g, 0, none⟩ l.length cap (bvs l) (by simp [hsz]) holds s (by omega) (by omega) (by rw [hby]; exact growslice_fits (by omega) (by omega))
      have hge := grownCap_ge w (l.length + s.size) cap 5
      have hcm := grownCap_le_maxLen w (l.length + s.size) cap 5 (by omega)
      refine ⟨_, _, hr, .inr ⟨w.heap.size, _, bvs l ++ bvs s.data.toList ++ (Builtin.zeroCells (Value.cells (.int .u8 0)) (grownCap w (l.length + s.size) cap 5 - (l.length + s.size))).toList, by simp, ?_, by simpa using hge, ?_, hcm, ?_⟩, ?_, fun k hk => .inr ?_⟩
      · rw [hsc]; exact laid_three w.drew 5 _ _ _
      · simp only [List.length_append, bvs_length, Array.length_toList, size_zeroCells]
        simp [Value.cells]; omega
      · rw [bvs_append, List.take_append_of_le_length (by simp)]
        exact List.take_of_length_le (by simp)
      · exact (Upd.drew (Upd.refl _ w)).alloc _
      · simp [Value.ownBlock] at hk; omega
theorem wpList_append_str {w : World} {ops : Array Oper} {rest : List Oper} {o : Oper} {a : Act} {Q : Exit → Act → World → Prop} (hgd : o.guard = none) (s x : Operand)
    (ho : o.op = .call { callee := .builtin .append, args := #[s, x], argTypes := #[42, 9] })
    {v : Value} {l m : List UInt8} {R : HP} (hs : a.eval s = v) (hx : a.eval x = .string (strOf m)) (hv : Holds w (ownb v l * R)) (hlen : l.length + m.length ≤ 140737488355328)
    (h : ∀ v' w', Holds w' (ownb v' (l ++ m) * R) → Quiet w w' → wpList Tryz.prog ops Q rest (a.put o.dst v') w') : wpList Tryz.prog ops Q (o :: rest) a w := by
  obtain ⟨F, ⟨ho', rfl⟩, kk⟩ := hv.open
  obtain ⟨v', w', hr, h2, h3, h4⟩ := run_append_str o.type (strOf m) ho' (by rw [strOf_size]; exact hlen)
  rw [strOf_data] at h2
  refine wpList_plain hgd fun _ hK => ?_
  unfold Oper.wp execOp
  simp only [ho, resolve, invoke, builtin, Sem.run_bind, Sem.run_pure, Result.andThen_ok, List.map_toArray, List.map_cons, List.map_nil, hs, hx, hr]
  exact hK _ _ (h v' w' (kk w' (fun k => v'.ownBlock = some k) (ownb v' (l ++ m)) ⟨h2, rfl⟩ h3 h4) (Quiet.upd h3))
def kcs (b bg : Nat) (u : Bool) (v : Value) : List Value := [if u then .pointer (some ⟨b, 0, none⟩) else .pointer none, v, .pointer (some ⟨bg, 0, none⟩)]
/-- A desk's own block, and what it tells. -/
def kst (b bg : Nat) (told : List UInt8) : HP := HP.ex fun x : Bool × Value => bl b 46 (kcs b bg x.1 x.2) * ownb x.2 told
theorem kst_open {b bg : Nat} {told : List UInt8} {R : HP} {w : World} (h : Holds w (kst b bg told * R)) : ∃ u v, Holds w (bl b 46 (kcs b bg u v) * (ownb v told * R)) := by
  obtain ⟨x, h⟩ := HP.ex_mul h
  exact ⟨x.1, x.2, h.eq (by simp only [HP.assoc])⟩
theorem kst_close {b bg : Nat} {u : Bool} {v : Value} {told : List UInt8} {R : HP} {w : World} (h : Holds w (bl b 46 (kcs b bg u v) * (ownb v told * R))) : Holds w (kst b bg told * R) :=
  HP.mul_ex (A := fun x : Bool × Value => bl b 46 (kcs b bg x.1 x.2) * ownb x.2 told) (x := (u, v)) (h.eq (by simp only [HP.assoc]))
theorem check_sl (b bg : Nat) (u : Bool) (v : Value) (w : World) {R : HP} (h : Holds w (bl b 46 (kcs b bg u v) * R)) :
    Calls Tryz.prog 81 #[.pointer (some ⟨b, 0, none⟩)] w fun e w' => e = .returned (.tuple #[]) ∧ Quiet w w' ∧ Holds w' (bl b 46 (kcs b bg true v) * R) := by
  have hb := h.bl
  cases u with
  | true =>
    exact (check_used b w (hb.cell 0 _ rfl)).mono fun e w' ⟨he, hw⟩ => ⟨he, hw ▸ Quiet.refl _, hw ▸ h⟩
  | false =>
    refine (check_fresh b w (hb.cell 0 _ rfl) ?_ (hb.free 0)).mono fun e w' ⟨he, hw⟩ => ⟨he, hw ▸ (Quiet.refl _).setCell _ _, hw ▸ h.setB 0 _⟩
    unfold BlockAt at hb
    simp [World.shape?, hb, kcs]
set_option maxHeartbeats 1000000 in
theorem write_sl (b bg : Nat) (told s : List UInt8) (w : World) {R : HP} (h : Holds w (kst b bg told * R)) (hlen : told.length + s.length ≤ 1000000000) :
    Calls Tryz.prog 56 #[.pointer (some ⟨b, 0, none⟩), .string (strOf s)] w fun e w' => e = .returned (.tuple #[.int .i64 s.length, .nilIface]) ∧ Quiet w w' ∧ Holds w' (kst b bg (told ++ s) * R) := by
  obtain ⟨u, v, h⟩ := kst_open h
  obtain ⟨va, vc, rfl, -, -⟩ := h.two.ownb.bytes.shape
  have H := Lib.hid h; clear h
  have hsz := strOf_size s
  go_enter Tryz.func56, Tryz.ntmps56
  go_wp2_with fail
  refine (check_sl b bg u _ _ H.out).mono ?_
  rintro e w1 ⟨rfl, q1, h1⟩
  have H1 := Lib.hid h1; have c1 := h1.bl.cell 1 _ rfl; have Q1 := Lib.hid q1; clear h1 q1
  go_wp2_with (at_builtin; refine wpList_append_str (l := told) (m := s) rfl (.tmp 12) (.tmp 13) rfl rfl rfl H1.out.two (by omega) ?_; intro v' w2 h2 q2; obtain ⟨va', vc', rfl, -, -⟩ := h2.ownb.bytes.shape; have H2 := Lib.hid h2; have Q2 := Lib.hid q2; have c2 := h2.two.bl.cell 1 _ rfl; have f2 := h2.two.bl.free 1; clear h2 q2)
  go_ret2
  refine ⟨rfl, (Q1.out.trans Q2.out).setCell _ _, kst_close (u := true) (v := .slice va' (told.length + s.length) vc') ?_⟩
  have hf := H2.out.two.setB 1 (.slice va' (told.length + s.length) vc')
  rw [List.length_append] at hf
  exact hf
/-- A desk's own block, whatever it told. -/
def kbl (b bg : Nat) : HP := HP.ex fun x : Bool × Value => bl b 46 (kcs b bg x.1 x.2)
theorem kbl_open {b bg : Nat} {R : HP} {w : World} (h : Holds w (kbl b bg * R)) : ∃ u v, Holds w (bl b 46 (kcs b bg u v) * R) := by
  obtain ⟨x, h⟩ := HP.ex_mul h
  exact ⟨x.1, x.2, h⟩
theorem kbl_close {b bg : Nat} {u : Bool} {v : Value} {R : HP} {w : World} (h : Holds w (bl b 46 (kcs b bg u v) * R)) : Holds w (kbl b bg * R) :=
  HP.mul_ex (A := fun x : Bool × Value => bl b 46 (kcs b bg x.1 x.2)) (x := (u, v)) h
set_option maxHeartbeats 1000000 in
theorem reset_sl (b bg : Nat) (w : World) {R : HP} (h : Holds w (kbl b bg * R)) :
    Calls Tryz.prog 14 #[.pointer (some ⟨b, 0, none⟩)] w fun e w' => e = .returned (.tuple #[]) ∧ Quiet w w' ∧ Holds w' (kst b bg [] * R) := by
  obtain ⟨u, v, h⟩ := kbl_open h
  have H := Lib.hid h
  have c0 := h.bl.cell 0 _ rfl
  have c1 := h.bl.cell 1 _ rfl
  have f0 := h.bl.free 0
  have f1 := h.bl.free 1
  clear h
  go_enter Tryz.func14, Tryz.ntmps14
  go_wp2
  go_end0
  exact ⟨rfl, ((Quiet.refl _).setCell _ _).setCell _ _, kst_close (u := false) (v := .slice none 0 0) ((H.out.setB 0 (.pointer none)).setB 1 (.slice none 0 0)).nilB.two⟩
/-- What is given up. -/
theorem Holds.give {w w' : World} {v : Value} {l : List UInt8} {R : HP} (h : Holds w (Go.Proofs.YtfihmpkkpgmdhaaGreatDoor.ownb v l * R)) (hu : Upd (fun k => v.ownBlock = some k) w w') : Holds w' R := by
  obtain ⟨F, ⟨ho, rfl⟩, kk⟩ := h.open
  exact (kk w' (fun _ => False) HP.emp (fun _ h => h) hu (fun k h => h.elim)).right
theorem upd_freeze {w : World} {g n : Nat} : Upd (fun k => some g = some k) w (w.freeze ⟨g, 0, none⟩ n) := by
  unfold World.freeze
  split
  · exact Upd.refl _ w
  · exact ⟨rfl, rfl, rfl, by simp, fun k hk hf => by
      simp only [Array.getElem?_modify]
      rw [if_neg (fun e => hf (congrArg some e))]⟩
set_option maxHeartbeats 1000000 in
theorem string_sl (b bg : Nat) (told : List UInt8) (w : World) {R : HP} (h : Holds w (kst b bg told * R)) :
    Calls Tryz.prog 16 #[.pointer (some ⟨b, 0, none⟩)] w fun e w' => e = .returned (.string (strOf told)) ∧ Quiet w w' ∧ Holds w' (kbl b bg * R) := by
  obtain ⟨u, v, h⟩ := kst_open h
  have H := Lib.hid h
  have c0 : w.cell? ⟨b, 1, none⟩ = some v := h.bl.cell 1 _ rfl
  have ho := h.two.ownb
  have hUS : ∀ (W : World) (q : Option Addr), (Builtin.unsafeString_ #[75, 3] 9 #[.pointer q, .int .i64 0]).run Tryz.prog W = .ok (.string .empty) W := fun W q => Lib.run_unsafeString_none W _ _ _ q
  rcases ho with ⟨rfl, rfl⟩ | ⟨g, cap, cur, rfl, hb, h1, h2, h3, h4⟩
  · have c1 : w.drew.cell? ⟨b, 1, none⟩ = some (.slice none 0 0) := c0
    have hSD : (Builtin.unsafeSliceData_ #[42] 75 #[.slice none 0 0]).run Tryz.prog w.drew = .ok (.pointer none) w.drew := rfl
    clear h
    go_enter Tryz.func16, Tryz.ntmps16
    go_wp2
    go_region
    all_goals (go_wp2; go_ret; exact ⟨rfl, (Quiet.refl _).drew, kbl_close (H.out.drew.two.give (Upd.refl _ _))⟩)
  · have hshg : w.drew.shape? g = some (5, cur.length) := by have hb' : w.drew.heap[g]? = some (.cells cur.toArray 5 (0, 0)) := hb; simp [World.shape?, hb']
    by_cases hl : told = []
    · subst hl
      by_cases hc0 : cap = 0
      · subst hc0
        have c1 : w.drew.cell? ⟨b, 1, none⟩ = some (.slice (some ⟨g, 0, none⟩) 0 0) := c0
        have hSD : (Builtin.unsafeSliceData_ #[42] 75 #[.slice (some ⟨g, 0, none⟩) 0 0]).run Tryz.prog w.drew = .ok (.pointer (some ⟨w.drew.heap.size, 0, none⟩)) (w.drew.alloc (.view ⟨g, 0, none⟩ 5)) :=
          Lib.run_unsafeSliceData_zero w.drew _ _ 5 Tryz.underlying75 ⟨g, 0, none⟩ 0 (5, cur.length) hshg
        have c2 : (w.drew.alloc (.view ⟨g, 0, none⟩ 5)).cell? ⟨b, 1, none⟩ = some (.slice (some ⟨g, 0, none⟩) 0 0) := (h.drew.alloc _).bl.cell 1 _ rfl
        have c3 : (w.alloc (.view ⟨g, 0, none⟩ 5)).drew.cell? ⟨b, 1, none⟩ = some (.slice (some ⟨g, 0, none⟩) 0 0) := c2
        clear h
        go_enter Tryz.func16, Tryz.ntmps16
        go_wp2
        go_region
        all_goals (go_wp2; go_ret; exact ⟨rfl, ((Quiet.refl _).drew).alloc _, kbl_close ((H.out.drew.alloc _).two.give (Upd.refl _ _))⟩)
      · have c1 : w.drew.cell? ⟨b, 1, none⟩ = some (.slice (some ⟨g, 0, none⟩) 0 cap) := c0
        have hSD : (Builtin.unsafeSliceData_ #[42] 75 #[.slice (some ⟨g, 0, none⟩) 0 cap]).run Tryz.prog w.drew = .ok (.pointer (some ⟨g, 0, none⟩)) w.drew := Lib.run_unsafeSliceData_row _ _ _ _ _ _ hc0
        clear hc0 h
        go_enter Tryz.func16, Tryz.ntmps16
        go_wp2
        go_region
        all_goals (go_wp2; go_ret; exact ⟨rfl, (Quiet.refl _).drew, kbl_close (H.out.drew.two.give (Upd.refl _ _))⟩)
    · have hl0 : told.length ≠ 0 := fun e => hl (List.length_eq_zero_iff.1 e)
      have c1 : w.drew.cell? ⟨b, 1, none⟩ = some (.slice (some ⟨g, 0, none⟩) told.length cap) := c0
      have hSD : (Builtin.unsafeSliceData_ #[42] 75 #[.slice (some ⟨g, 0, none⟩) told.length cap]).run Tryz.prog w.drew = .ok (.pointer (some ⟨g, 0, none⟩)) w.drew := Lib.run_unsafeSliceData_row _ _ _ _ _ _ (by omega)
      have hU : (Builtin.unsafeString_ #[75, 3] 9 #[.pointer (some ⟨g, 0, none⟩), .int .i64 told.length]).run Tryz.prog w.drew = .ok (.string (strOf told)) (w.drew.freeze ⟨g, 0, none⟩ told.length) := by
        refine Lib.run_unsafeString_row w.drew 75 3 9 5 Tryz.underlying75 (by kernel_rfl) g cur.length hshg told hl (by omega) (by unfold maxLen at h3; omega) ?_
        intro j x hx
        rw [Addr.add_lit, Nat.zero_add]
        refine hb.cell j _ ?_
        have hj : (bvs told)[j]? = some (.int .u8 x.toNat) := by simp [bvs, bv, hx]
        rw [← h4, List.getElem?_take] at hj
        split at hj
        · exact hj
        · cases hj
      have hq : Holds (w.drew.freeze ⟨g, 0, none⟩ told.length) (bl b 46 (kcs b bg u (.slice (some ⟨g, 0, none⟩) told.length cap)) * R) := H.out.drew.two.give upd_freeze
      have hQ : Quiet w (w.drew.freeze ⟨g, 0, none⟩ told.length) := ((Quiet.refl w).drew).trans (Quiet.upd (upd_freeze (w := w.drew) (g := g) (n := told.length)))
      have HH := Lib.hid hq; have HQ := Lib.hid hQ
      clear h hl hl0 hq hQ h4
      go_enter Tryz.func16, Tryz.ntmps16
      go_wp2
      go_region
      all_goals (go_wp2; go_ret; exact ⟨rfl, HQ.out, kbl_close HH.out⟩)
end Go.Proofs.YtfihmpkkpgmdhaaGreatDoor
