/-
  What the proof of DeskJoins leans on: plain definitions and laws, and contracts of functions that it reaches. No condition besides those that each theorem names.
-/
import Derived.Test.YtfihmpkkpgmdhaaGreatDoorZJi
import Derived.Deep.Cut
import Derived.Test.YtfihmpkkpgmdhaaGreatDoorZJg
/-
  The package guild, walked: Step, whatever it is.
-/
namespace Go.Proofs.YtfihmpkkpgmdhaaGreatDoor
set_option linter.unusedSimpArgs false
set_option linter.unusedVariables false
open Go.RowKit
set_option maxRecDepth 100000 in
set_option maxHeartbeats 4000000 in
theorem gStep_none (bg bd : Nat) (vs : Nat → Value) (g : Gld) (kd x kp c nw j r k m : Int) (w : World) {R : HP} (h : Holds w (gblk bg bd vs g.now * (dsk bd g.d * (nodes3 bd vs g.f * R)))) (hk : kd = 2 ∨ kd = 3 ∨ kd = 4) (hn : g.nod x = none) :
    Calls Tryz.prog 44 #[.pointer (some ⟨bg, 0, none⟩), .agg #[.int .i64 kd, .int .i64 x, .int .i64 kp, .int .i64 c, .int .i64 nw, .int .i64 j, .int .i64 r, .int .i64 k, .int .i64 m]] w (GPost w bg R (g.step ⟨kd, x, kp, ⟨c, nw, j, r, k, m⟩⟩)) := by
  obtain ⟨w0, hw0, H0, Q0⟩ : ∃ w0, (w.alloc (.cells #[.int .i64 kd, .int .i64 x, .int .i64 kp, .int .i64 c, .int .i64 nw, .int .i64 j, .int .i64 r, .int .i64 k, .int .i64 m] 86)).alloc (.cells #[.int .i64 0, .int .i64 0, .int .i64 0] 88) = w0 ∧ Hid (Holds w0 (bl (w.heap.size + 1) 88 [.int .i64 0, .int .i64 0, .int .i64 0] * (bl w.heap.size 86 [.int .i64 kd, .int .i64 x, .int .i64 kp, .int .i64 c, .int .i64 nw, .int .i64 j, .int .i64 r, .int .i64 k, .int .i64 m] * (gblk bg bd vs g.now * (dsk bd g.d * (nodes3 bd vs g.f * R)))))) ∧ Hid (Quiet w w0) :=
    ⟨_, rfl, Lib.hid ((h.boxB (ty := 86) (cs := [.int .i64 kd, .int .i64 x, .int .i64 kp, .int .i64 c, .int .i64 nw, .int .i64 j, .int .i64 r, .int .i64 k, .int .i64 m]) rfl).boxB (ty := 88) (cs := [.int .i64 0, .int .i64 0, .int .i64 0]) (g := w.heap.size + 1) (by simp)), Lib.hid (((Quiet.refl w).alloc _).alloc _)⟩
  clear h
  obtain ⟨g0, hg0⟩ : ∃ g0, w.heap.size = g0 := ⟨_, rfl⟩
  rw [hg0] at H0
  obtain ⟨ga, hga⟩ : ∃ ga, g0 + 1 = ga := ⟨_, rfl⟩
  rw [hga] at H0
  have co := H0.out.two.bl.cells
  obtain ⟨d, f, now⟩ := g
  dsimp only at H0
  have he : (⟨d, f, now⟩ : Gld).step ⟨kd, x, kp, ⟨c, nw, j, r, k, m⟩⟩ = (⟨d, f, now⟩, ⟨5, 0, 0⟩) := by
    unfold Gld.step; dsimp only; rw [if_neg (by omega), if_neg (by omega), if_pos hk, hn]
  rw [he]; clear he
  have hv : gAt vs x = .pointer none := by
    unfold gAt
    unfold Gld.nod at hn
    split
    · rfl
    · rename_i hx
      rw [if_neg hx] at hn
      have hi : x.toNat < 3 := by omega
      have h := H0.out.right.right.right.right.eq (by rw [nodes3_pick bd vs f hi, show f x.toNat = none from hn]; ac_rfl : _ = onod (vs x.toNat) bd none * (nrest bd vs f x.toNat * R))
      exact (onod_none h).1
  have HV := Lib.hid hv
  clear hv hn
  have b1 : (kd == 1) = false := by simp only [beq_eq_false_iff_ne, ne_eq]; omega
  have b5 : (kd == 5) = false := by simp only [beq_eq_false_iff_ne, ne_eq]; omega
  have ca := H0.out.bl.cells
  have fa := H0.out.bl.frees
  have la := H0.out.bl.lt
  obtain ⟨b2, b3, b4, hb⟩ : ∃ b2 b3 b4 : Bool, ((kd == 2) = b2 ∧ (kd == 3) = b3 ∧ (kd == 4) = b4) ∧ (b2 || b3 || b4) = true := ⟨_, _, _, ⟨rfl, rfl, rfl⟩, by rcases hk with rfl | rfl | rfl <;> rfl⟩
  clear hk
  rcases (show (b2 = true ∨ (b2 = false ∧ b3 = true) ∨ (b2 = false ∧ b3 = false ∧ b4 = true)) by revert hb; cases b2 <;> cases b3 <;> cases b4 <;> simp) with rfl | ⟨rfl, rfl⟩ | ⟨rfl, rfl, rfl⟩
  all_goals
    obtain ⟨⟨e2, e3, e4⟩, _⟩ := hb
    go_enter Tryz.func44, Tryz.ntmps44
    go_wp2_with fail
    clear hw0 hg0 hga
    refine (gNode_sl bg bd vs now x _ H0.out.three).mono ?_
    rw [HV.out]
    rintro e w1 ⟨rfl, rfl⟩
    go_wp2
    have hf := ((H0.out.setB 0 (.int .i64 5)).setB 1 (.int .i64 0)).setB 2 (.int .i64 0)
    have hl := run_load_part (P := Tryz.prog) (off := 0) (ty := 88) (vs := [.int .i64 5, .int .i64 0, .int .i64 0]) hf.bl rfl Tryz.underlying88 rfl (by kernel_rfl)
    exact bodyPost_ret (results_cell1 rfl rfl hl) rfl ⟨rfl, ((Q0.out.setCell _ _).setCell _ _).setCell _ _, gld_close hf.right.right⟩
set_option maxRecDepth 100000 in
set_option maxHeartbeats 4000000 in
theorem gStep_node (bg bd : Nat) (vs : Nat → Value) (g : Gld) (n : Nod) (kd x kp c nw j r k m : Int) (w : World) {R : HP} (h : Holds w (gblk bg bd vs g.now * (dsk bd g.d * (nodes3 bd vs g.f * R)))) (hk : kd = 2 ∨ kd = 3 ∨ kd = 4) (hn : g.nod x = some n) (hd : g.d.Ok) (hep : 1 ≤ n.ep) (hok : n.t.Ok) :
    Calls Tryz.prog 44 #[.pointer (some ⟨bg, 0, none⟩), .agg #[.int .i64 kd, .int .i64 x, .int .i64 kp, .int .i64 c, .int .i64 nw, .int .i64 j, .int .i64 r, .int .i64 k, .int .i64 m]] w (GPost w bg R (g.step ⟨kd, x, kp, ⟨c, nw, j, r, k, m⟩⟩)) := by
  obtain ⟨w0, hw0, H0, Q0⟩ : ∃ w0, (w.alloc (.cells #[.int .i64 kd, .int .i64 x, .int .i64 kp, .int .i64 c, .int .i64 nw, .int .i64 j, .int .i64 r, .int .i64 k, .int .i64 m] 86)).alloc (.cells #[.int .i64 0, .int .i64 0, .int .i64 0] 88) = w0 ∧ Hid (Holds w0 (bl (w.heap.size + 1) 88 [.int .i64 0, .int .i64 0, .int .i64 0] * (bl w.heap.size 86 [.int .i64 kd, .int .i64 x, .int .i64 kp, .int .i64 c, .int .i64 nw, .int .i64 j, .int .i64 r, .int .i64 k, .int .i64 m] * (gblk bg bd vs g.now * (dsk bd g.d * (nodes3 bd vs g.f * R)))))) ∧ Hid (Quiet w w0) :=
    ⟨_, rfl, Lib.hid ((h.boxB (ty := 86) (cs := [.int .i64 kd, .int .i64 x, .int .i64 kp, .int .i64 c, .int .i64 nw, .int .i64 j, .int .i64 r, .int .i64 k, .int .i64 m]) rfl).boxB (ty := 88) (cs := [.int .i64 0, .int .i64 0, .int .i64 0]) (g := w.heap.size + 1) (by simp)), Lib.hid (((Quiet.refl w).alloc _).alloc _)⟩
  clear h
  obtain ⟨g0, hg0⟩ : ∃ g0, w.heap.size = g0 := ⟨_, rfl⟩
  rw [hg0] at H0
  obtain ⟨ga, hga⟩ : ∃ ga, g0 + 1 = ga := ⟨_, rfl⟩
  rw [hga] at H0
  have co := H0.out.two.bl.cells
  obtain ⟨d, f, now⟩ := g
  dsimp only at H0
  obtain ⟨⟨d', n', ⟨a1, a2, a3⟩⟩, hX⟩ : ∃ X, gact d n kd kp ⟨c, now, j, r, k, m⟩ = X := ⟨_, rfl⟩
  have he : (⟨d, f, now⟩ : Gld).step ⟨kd, x, kp, ⟨c, nw, j, r, k, m⟩⟩ = (⟨d', putN f x.toNat n', now⟩, ⟨a1, a2, a3⟩) := by
    unfold Gld.step; dsimp only; rw [if_neg (by omega), if_neg (by omega), if_pos hk, hn]
    unfold gact at hX
    dsimp only [Ord.at]
    by_cases h2 : kd = 2
    · rw [if_pos h2] at hX ⊢; rw [hX]
    · rw [if_neg h2] at hX ⊢
      by_cases h3 : kd = 3
      · rw [if_pos h3] at hX ⊢
        simp only [Prod.mk.injEq] at hX
        obtain ⟨e1, e2, e3⟩ := hX
        rw [e1, e2, e3]
      · rw [if_neg h3] at hX ⊢
        simp only [Prod.mk.injEq] at hX
        obtain ⟨e1, e2, e3⟩ := hX
        rw [e1, e2, e3]
  rw [he]; clear he
  have hnode := fun W (R' : HP) bn (h : Holds W (nod bn bd n * (dsk bd d * R'))) => gnode_sl bg bn bd d n kd x kp c now j r k m W h hd hep hok
  rw [hX] at hnode
  have HN := Lib.hid hnode
  have hxx : ¬ (x < 0 ∨ 3 ≤ x) := by
    intro h; unfold Gld.nod at hn; rw [if_pos h] at hn; cases hn
  obtain ⟨i, rfl⟩ := Int.eq_ofNat_of_zero_le (show 0 ≤ x by omega)
  have hi : i < 3 := by omega
  have hfi : f i = some n := by unfold Gld.nod at hn; rw [if_neg hxx] at hn; exact hn
  have h5 := H0.out.eq (by rw [nodes3_pick bd vs f hi, hfi]; ac_rfl : _ = onod (vs i) bd (some n) * (bl ga 88 [.int .i64 0, .int .i64 0, .int .i64 0] * (bl g0 86 [.int .i64 kd, .int .i64 i, .int .i64 kp, .int .i64 c, .int .i64 nw, .int .i64 j, .int .i64 r, .int .i64 k, .int .i64 m] * (gblk bg bd vs now * (dsk bd d * (nrest bd vs f i * R))))))
  obtain ⟨bn, hvi, h6⟩ := onod_some h5
  have HV := Lib.hid (show gAt vs i = .pointer (some ⟨bn, 0, none⟩) by unfold gAt; rw [if_neg hxx]; exact hvi)
  have HVI := Lib.hid hvi
  have H6 := Lib.hid h6
  clear hnode hX hn hd hep hok hxx hfi h5 h6 hvi H0
  have b1 : (kd == 1) = false := by simp only [beq_eq_false_iff_ne, ne_eq]; omega
  have b5 : (kd == 5) = false := by simp only [beq_eq_false_iff_ne, ne_eq]; omega
  have cg := (show BlockAt w0 bg 65 (gcells bd vs now) from H6.out.four.bl).cell 4 _ rfl
  have fs := H6.out.three.bl.frees
  have ls := H6.out.three.bl.lt
  obtain ⟨b2, b3, b4, hb⟩ : ∃ b2 b3 b4 : Bool, ((kd == 2) = b2 ∧ (kd == 3) = b3 ∧ (kd == 4) = b4) ∧ (b2 || b3 || b4) = true := ⟨_, _, _, ⟨rfl, rfl, rfl⟩, by rcases hk with rfl | rfl | rfl <;> rfl⟩
  clear hk
  rcases (show (b2 = true ∨ (b2 = false ∧ b3 = true) ∨ (b2 = false ∧ b3 = false ∧ b4 = true)) by revert hb; cases b2 <;> cases b3 <;> cases b4 <;> simp) with rfl | ⟨rfl, rfl⟩ | ⟨rfl, rfl, rfl⟩
  all_goals
    obtain ⟨⟨e2, e3, e4⟩, _⟩ := hb
    go_enter Tryz.func44, Tryz.ntmps44
    go_wp2_with fail
    clear hw0 hg0 hga
    refine (gNode_sl bg bd vs now i _ H6.out.four).mono ?_
    rw [HV.out]
    rintro e w1 ⟨rfl, rfl⟩
    go_upto_region 16 with fail
    obtain ⟨w2, hw2, H7, Q7⟩ : ∃ w2, w0.setCell ⟨g0, 4, none⟩ (.int .i64 now) = w2 ∧ Hid (Holds w2 (bl g0 86 [.int .i64 kd, .int .i64 i, .int .i64 kp, .int .i64 c, .int .i64 now, .int .i64 j, .int .i64 r, .int .i64 k, .int .i64 m] * (nod bn bd n * (dsk bd d * (bl ga 88 [.int .i64 0, .int .i64 0, .int .i64 0] * (gblk bg bd vs now * (nrest bd vs f i * R))))))) ∧ Hid (Quiet w w2) :=
      ⟨_, rfl, Lib.hid ((H6.out.three.setB 4 (.int .i64 now)).eq (by simp only [List.set_cons_zero, List.set_cons_succ]; ac_rfl)), Lib.hid (Q0.out.setCell _ _)⟩
    rw [hw2]
    clear hw2 cg fs ls co H6 Q0
    go_wp2_with (refine wpList_load_whole rfl 86 _ rfl g0 rfl [.int .i64 kd, .int .i64 i, .int .i64 kp, .int .i64 c, .int .i64 now, .int .i64 j, .int .i64 r, .int .i64 k, .int .i64 m] H7.out.bl Tryz.underlying86 rfl (by kernel_rfl) ?_)
    refine (HN.out _ _ bn H7.out.right).mono ?_
    rintro e w3 ⟨rfl, q3, h3⟩
    have h8 := h3.eq (by ac_rfl : _ = bl ga 88 [.int .i64 0, .int .i64 0, .int .i64 0] * (nod bn bd n' * (gblk bg bd vs now * (dsk bd d' * (nrest bd vs f i * R)))))
    have ca := h8.bl.cells
    have fa := h8.bl.frees
    have la := h8.bl.lt
    have H8 := Lib.hid h8; have Q8 := Lib.hid (Q7.out.trans q3)
    clear h3 h8 q3 H7 Q7
    simp only [Ans.val]
    go_wp2
    have hf := ((H8.out.setB 0 (.int .i64 a1)).setB 1 (.int .i64 a2)).setB 2 (.int .i64 a3)
    have hl := run_load_part (P := Tryz.prog) (off := 0) (ty := 88) (vs := [.int .i64 a1, .int .i64 a2, .int .i64 a3]) hf.bl rfl Tryz.underlying88 rfl (by kernel_rfl)
    have hz := onod_mk hf.right
    rw [← HVI.out] at hz
    exact bodyPost_ret (results_cell1 rfl rfl hl) rfl ⟨rfl, ((Q8.out.setCell _ _).setCell _ _).setCell _ _, gld_close (g := ⟨d', putN f i n', now⟩) (vs := updV vs i (vs i)) (hz.eq (by rw [nodes3_put bd vs f hi, updV_self]; ac_rfl))⟩
theorem gStep_sl (bg : Nat) (g : Gld) (kd x kp c nw j r k m : Int) (l : List Rec) (w : World) {R : HP} (h : Holds w (gld bg g * R)) (hg : g.Ok l) :
    Calls Tryz.prog 44 #[.pointer (some ⟨bg, 0, none⟩), .agg #[.int .i64 kd, .int .i64 x, .int .i64 kp, .int .i64 c, .int .i64 nw, .int .i64 j, .int .i64 r, .int .i64 k, .int .i64 m]] w (GPost w bg R (g.step ⟨kd, x, kp, ⟨c, nw, j, r, k, m⟩⟩)) := by
  obtain ⟨bd, vs, h⟩ := gld_open h
  by_cases h1 : kd = 1
  · subst h1; exact gStep_open bg bd vs g x kp c nw j r k m w h hg.fam.ok
  by_cases h5 : kd = 5
  · subst h5; exact gStep_tick bg bd vs g x kp c nw j r k m w h hg.now
  by_cases hk : kd = 2 ∨ kd = 3 ∨ kd = 4
  · cases hn : g.nod x with
    | none => exact gStep_none bg bd vs g kd x kp c nw j r k m w h hk hn
    | some n =>
      have hs := hg.fam.sv _ _ (nod_some hn).2.1
      exact gStep_node bg bd vs g n kd x kp c nw j r k m w h hk hn hg.fam.ok hs.1.1 hs.2.1.ok
  · exact gStep_kind bg bd vs g kd x kp c nw j r k m w h h1 (by omega) (by omega) (by omega) h5
end Go.Proofs.YtfihmpkkpgmdhaaGreatDoor

/-
  What the laws on guilds share: the law's beginning; the steps that come in.
-/
namespace Go.Proofs.YtfihmpkkpgmdhaaGreatDoor
set_option linter.unusedSimpArgs false
set_option linter.unusedVariables false
open Go.RowKit
def Gld.Good (g : Gld) : Prop := ∃ l, g.Ok l
theorem good_zero : Gld.zero.Good := ⟨[], Gld.zero_ok⟩
theorem good_step {g : Gld} (h : g.Good) (x : Stp) : (g.step x).1.Good := by
  obtain ⟨l, h⟩ := h
  obtain ⟨l', h'⟩ := step_ok h x
  exact ⟨l', h'.ok⟩
theorem gstep_sl (bg : Nat) (g : Gld) (kd x kp c nw j r k m : Int) (w : World) {R : HP} (h : Holds w (gld bg g * R)) (hg : g.Good) :
    Calls Tryz.prog 44 #[.pointer (some ⟨bg, 0, none⟩), .agg #[.int .i64 kd, .int .i64 x, .int .i64 kp, .int .i64 c, .int .i64 nw, .int .i64 j, .int .i64 r, .int .i64 k, .int .i64 m]] w (GPost w bg R (g.step ⟨kd, x, kp, ⟨c, nw, j, r, k, m⟩⟩)) := by
  obtain ⟨l, hg⟩ := hg
  exact gStep_sl bg g kd x kp c nw j r k m l w h hg
def gz1 : Gld := (Gld.zero.step ⟨1, 1, 0, ⟨0, 0, 0, 0, 0, 0⟩⟩).1
def gz2 : Gld := (gz1.step ⟨2, 1, 0, ⟨1, 7, 4, 0, 0, 0⟩⟩).1
def gz3 : Gld := (gz2.step ⟨5, 9, 0, ⟨0, 0, 0, 0, 0, 0⟩⟩).1
def gz4 : Gld := (gz3.step ⟨1, 2, 0, ⟨0, 0, 0, 0, 0, 0⟩⟩).1
def gz5 : Gld := (gz4.step ⟨2, 2, 0, ⟨2, 0, 0, 0, 1, 3⟩⟩).1
def gz6 : Gld := (gz5.step ⟨2, 1, 0, ⟨2, 0, 0, 0, 2, 3⟩⟩).1
theorem gz1_e : Gld.zero.step ⟨1, 1, 0, ⟨0, 0, 0, 0, 0, 0⟩⟩ = (gz1, ⟨0, 0, 0⟩) := Prod.ext rfl (by kernel_rfl)
theorem gz2_e : gz1.step ⟨2, 1, 0, ⟨1, 7, 4, 0, 0, 0⟩⟩ = (gz2, ⟨0, 0, 0⟩) := Prod.ext rfl (by kernel_rfl)
theorem gz3_e : gz2.step ⟨5, 9, 0, ⟨0, 0, 0, 0, 0, 0⟩⟩ = (gz3, ⟨0, 0, 0⟩) := Prod.ext rfl (by kernel_rfl)
theorem gz4_e : gz3.step ⟨1, 2, 0, ⟨0, 0, 0, 0, 0, 0⟩⟩ = (gz4, ⟨0, 0, 0⟩) := Prod.ext rfl (by kernel_rfl)
theorem gz5_e : gz4.step ⟨2, 2, 0, ⟨2, 0, 0, 0, 1, 3⟩⟩ = (gz5, ⟨0, 4, 1⟩) := Prod.ext rfl (by kernel_rfl)
theorem gz6_e : gz5.step ⟨2, 1, 0, ⟨2, 0, 0, 0, 2, 3⟩⟩ = (gz6, ⟨9, 0, 0⟩) := Prod.ext rfl (by kernel_rfl)
theorem gz1_ok : gz1.Good := good_step good_zero _
theorem gz2_ok : gz2.Good := good_step gz1_ok _
theorem gz3_ok : gz3.Good := good_step gz2_ok _
theorem gz4_ok : gz4.Good := good_step gz3_ok _
theorem gz5_ok : gz5.Good := good_step gz4_ok _
theorem gz6_ok : gz6.Good := good_step gz5_ok _
theorem gz6_ep : gz6.d.ep = 2 := by kernel_rfl
theorem gz6_now : gz6.now = 9 := by kernel_rfl
theorem gz6_len : gz6.d.b.length = 18 := by kernel_rfl
theorem gz6_f0 : gz6.f 0 = none := by kernel_rfl
theorem gz6_f2 : (gz6.f 2).map (fun n => n.t.job 4) = some ⟨2, 1, 1, 12⟩ := by kernel_rfl
theorem gz6_n : ∃ n, gz6.f 2 = some n ∧ n.t.job 4 = ⟨2, 1, 1, 12⟩ := by
  have h := gz6_f2
  cases hf : gz6.f 2 with
  | none => rw [hf] at h; cases h
  | some n => rw [hf] at h; exact ⟨n, rfl, by simpa using h⟩
theorem pick_some {w : World} {A B R : HP} {bd : Nat} {vs : Nat → Value} {f : Nat → Option Nod} {i : Nat} {n : Nod} (h : Holds w (A * (B * (nodes3 bd vs f * R)))) (hi : i < 3) (hf : f i = some n) : ∃ bn : Nat, vs i = .pointer (some ⟨bn, 0, none⟩) ∧ Holds w (nod bn bd n * (A * (B * (nrest bd vs f i * R)))) := by
  have h8 := h.eq (by rw [nodes3_pick bd vs f hi, hf]; ac_rfl : _ = onod (vs i) bd (some n) * (A * (B * (nrest bd vs f i * R))))
  exact onod_some h8
theorem pick_none {w : World} {A B R : HP} {bd : Nat} {vs : Nat → Value} {f : Nat → Option Nod} {i : Nat} (h : Holds w (A * (B * (nodes3 bd vs f * R)))) (hi : i < 3) (hf : f i = none) : vs i = .pointer none := by
  have h8 := h.eq (by rw [nodes3_pick bd vs f hi, hf]; ac_rfl : _ = onod (vs i) bd none * (A * (B * (nrest bd vs f i * R))))
  exact (onod_none h8).1
end Go.Proofs.YtfihmpkkpgmdhaaGreatDoor

/-
  The words of a line, in memory; slices of them.
-/
namespace Go.Proofs.YtfihmpkkpgmdhaaGreatDoor
set_option maxRecDepth 100000
set_option linter.unusedSimpArgs false
set_option linter.unusedVariables false
set_option linter.unnecessarySimpa false
open Go.RowKit
/-- The words of a line, in a row of their own. -/
def wds (v : Value) (l : List (List UInt8)) : HP := rw_ 9 1 v l.length (svls l)
theorem wds_cons {w : World} {v : Value} {x : List UInt8} {l : List (List UInt8)} {A : HP} (h : Holds w (wds v (x :: l) * A)) : ∃ g c, v = .slice (some ⟨g, 0, none⟩) (l.length + 1) c ∧ l.length + 1 ≤ c ∧ c ≤ 9223372036854775807 := by
  obtain ⟨h0, ho, ⟨rfl, hn⟩ | ⟨g, cap, cur, rfl, hb, h1, h2, h3, h4⟩⟩ := h.own
  · cases hn
  · exact ⟨g, cap, rfl, h1, by unfold maxLen at h3; exact h3⟩
theorem wds_cells {w : World} {g n c : Nat} {l : List (List UInt8)} {A : HP} (h : Holds w (wds (.slice (some ⟨g, 0, none⟩) n c) l * A)) (j : Nat) (x : List UInt8) (hj : l[j]? = some x) : w.cell? ⟨g, j, none⟩ = some (.string (strOf x)) := by
  obtain ⟨g', o', c', e, -, -, hc⟩ := h.row.get (by intro e; rw [List.length_eq_zero_iff.1 e] at hj; simp at hj)
  simp only [Value.slice.injEq, Option.some.injEq, Addr.mk.injEq, and_true] at e
  obtain ⟨⟨rfl, rfl⟩, -, rfl⟩ := e
  simpa using hc j _ (svls_get hj)
/-- The words from the q-th on. -/
theorem wds_tail {w : World} {g n c : Nat} {l : List (List UInt8)} {A : HP} (h : Holds w (wds (.slice (some ⟨g, 0, none⟩) n c) l * A)) (hn : n = l.length) {q m d : Nat} (hq : q + m = n) (hd : q + d = c) : RowAt w (.slice (some ⟨g, q, none⟩) m d) m (svls (l.drop q)) := by
  subst hn
  obtain ⟨a', c', e, h1, h2, h3, h4⟩ := h.row
  simp only [Value.slice.injEq] at e
  obtain ⟨rfl, -, rfl⟩ := e
  refine ⟨_, _, rfl, by omega, by omega, by simp, fun hm => ⟨g, q, rfl, fun j u hj => ?_⟩⟩
  obtain ⟨g', o', e, hc⟩ := h4 (by omega)
  simp only [Option.some.injEq, Addr.mk.injEq, and_true] at e
  obtain ⟨rfl, rfl⟩ := e
  have := hc (q + j) u (by simpa [svls, List.map_drop, List.getElem?_drop] using hj)
  simpa using this
/-- Some of the words, from the q-th on. -/
theorem wds_part {w : World} {g n c : Nat} {l : List (List UInt8)} {A : HP} (h : Holds w (wds (.slice (some ⟨g, 0, none⟩) n c) l * A)) (hn : n = l.length) {q m d : Nat} (hq : q + m ≤ n) (hd : q + d = c) : RowAt w (.slice (some ⟨g, q, none⟩) m d) m (svls ((l.drop q).take m)) := by
  obtain ⟨a', c', e, h1, h2, h3, h4⟩ := wds_tail h hn (q := q) (m := n - q) (d := d) (by omega) hd
  simp only [Value.slice.injEq] at e
  obtain ⟨rfl, -, rfl⟩ := e
  refine ⟨_, _, rfl, by omega, by omega, by simp, fun hm => ⟨g, q, rfl, fun j u hj => ?_⟩⟩
  obtain ⟨g', o', e, hc⟩ := h4 (by omega)
  simp only [Option.some.injEq, Addr.mk.injEq, and_true] at e
  obtain ⟨rfl, rfl⟩ := e
  refine hc j u ?_
  simp only [svls, List.getElem?_map, List.getElem?_take] at hj ⊢
  split at hj
  · exact hj
  · cases hj
/-- Numbers but the first, as Go spells their slice. -/
theorem inum_tail {w : World} {g n c : Nat} {l : List Int} {A : HP} (h : Holds w (rw_ 3 1 (.slice (some ⟨g, 0, none⟩) n c) n (ivs l) * A)) (hn : l.length = n) (h1 : 1 ≤ n) : RowAt w (.slice (if c = 1 then some ⟨g, 0, none⟩ else some ⟨g, 1, none⟩) (n - 1) (c - 1)) (n - 1) (ivs (l.drop 1)) := by
  obtain ⟨a', c', e, h1', h2, h3, h4⟩ := h.row
  simp only [Value.slice.injEq] at e
  obtain ⟨rfl, -, rfl⟩ := e
  refine ⟨_, _, rfl, by omega, by omega, by split <;> simp, fun hm => ?_⟩
  obtain ⟨g', o', e, hc⟩ := h4 (by omega)
  simp only [Option.some.injEq, Addr.mk.injEq, and_true] at e
  obtain ⟨rfl, rfl⟩ := e
  rw [if_neg (by omega)]
  refine ⟨g, 1, rfl, fun j u hj => ?_⟩
  have := hc (j + 1) u (by simpa [ivs, List.map_drop, List.getElem?_drop] using hj)
  simpa [Nat.add_comm] using this
theorem inum_cons {w : World} {v : Value} {x : Int} {l : List Int} {A : HP} (h : Holds w (inum v (x :: l) * A)) : ∃ g c, v = .slice (some ⟨g, 0, none⟩) (l.length + 1) c ∧ l.length + 1 ≤ c ∧ c ≤ 9223372036854775807 := by
  obtain ⟨h0, ho, ⟨rfl, hn⟩ | ⟨g, cap, cur, rfl, hb, h1, h2, h3, h4⟩⟩ := h.own
  · cases hn
  · exact ⟨g, cap, rfl, h1, by unfold maxLen at h3; exact h3⟩
theorem inum_cell {w : World} {g n c : Nat} {l : List Int} {A : HP} (h : Holds w (inum (.slice (some ⟨g, 0, none⟩) n c) l * A)) (j : Nat) (x : Int) (hj : l[j]? = some x) : w.cell? ⟨g, j, none⟩ = some (.int .i64 x) := by
  obtain ⟨g', o', c', e, -, -, hc⟩ := h.row.get (by intro e; rw [List.length_eq_zero_iff.1 e] at hj; simp at hj)
  simp only [Value.slice.injEq, Option.some.injEq, Addr.mk.injEq, and_true] at e
  obtain ⟨⟨rfl, rfl⟩, -, rfl⟩ := e
  simpa using hc j _ (by simp [ivs, hj])
theorem bytes_no {x y : List UInt8} (h : x ≠ y) : ((strOf x).toList == y) = false := by
  rw [beq_eq_false_iff_ne, ByteArray.toList_eq, strOf_data]
  exact h
theorem bytes_yes (x : List UInt8) : ((strOf x).toList == x) = true := by
  rw [beq_iff_eq, ByteArray.toList_eq, strOf_data]
def zstep (kd : Int) : List Value := [.int .i64 kd, .int .i64 0, .int .i64 0, .int .i64 0, .int .i64 0, .int .i64 0, .int .i64 0, .int .i64 0, .int .i64 0]
end Go.Proofs.YtfihmpkkpgmdhaaGreatDoor

/-
  desk.node, of an order that is not torn.
-/
namespace Go.Proofs.YtfihmpkkpgmdhaaGreatDoor
set_option maxRecDepth 100000
set_option linter.unusedSimpArgs false
set_option linter.unusedVariables false
set_option linter.unnecessarySimpa false
open Go.RowKit
section
variable {P : Program} {ops : Array Oper} {S : World → Prop} {path : List Nat} {Q : Exit → Act → World → Prop}
/-- A drawn store into a part of a block that is owned. -/
theorem LexL.storeP {o : Oper} {i : Nat} {rest : List Oper} {a : Act} {w : World} {q off : Nat} {t : TypeId} {cs : List Value} {B : HP} (ty : TypeId) (x y : Operand) (ho : o.op = .store ty x y) (vs : List Value) (hx : a.eval x = .pointer (some ⟨q, off, Option.none⟩)) (hy : a.eval y = .agg vs.toArray) (hfit : off + vs.length ≤ cs.length)
    (hi : (P.info? ty).map (·.size) = some vs.length) (h1 : Ones vs) (hw : Region.wanted o (yielded ops a.tmps) = true) (hp : i ∈ path) (hA : Holds w (bl q t cs * B))
    (h : ∀ w', Holds w' (bl q t (cs.take off ++ vs ++ cs.drop (off + vs.length)) * B) → Quiet w w' → S w' ∧ LexL P ops S path Q (i + 1) rest (a.put o.dst undef) w') : LexL P ops S path Q i (o :: rest) a w := by
  obtain ⟨w', e, hb, hg⟩ := exec_store_part (P := P) ty x y ho q off vs hx hy hA.bl hfit hi h1
  obtain ⟨hS, hl⟩ := h w' (hA.grown hg hb) (Quiet.grown hg)
  exact LexL.store hw hp e hS hl
end
theorem kst_bg {b bg : Nat} {told : List UInt8} {R : HP} {w : World} (h : Holds w (kst b bg told * R)) : w.cell? ⟨b, 2, none⟩ = some (.pointer (some ⟨bg, 0, none⟩)) := by
  obtain ⟨u, v, h⟩ := kst_open h
  exact h.bl.cell 2 _ rfl
set_option maxHeartbeats 8000000 in
theorem node_order (b bg : Nat) (told : List UInt8) (g : Gld) (v : Value) (w1 : List UInt8) (r : List (List UInt8)) (n : Int) (m : List Int) (o : Ord) (w : World) {w0 : World} {R : HP}
    (h : Holds w (kst b bg told * (gld bg g * (wds v (w1 :: r) * (lay w0 * R))))) (hg : g.Good) (hl : r.length ≤ 10000) (hs : ∀ s ∈ w1 :: r, s.length ≤ 100000) (h1 : w1 ≠ tTear) (hr : numsOf r = some (n :: m)) (ho : orderOf w1 m = some o) (ht : told.length ≤ 300000000) :
    Calls Tryz.prog 24 #[.pointer (some ⟨b, 0, none⟩), v] w fun e w' => e = .returned (.bool true) ∧ Quiet w w' ∧ Holds w' (kst b bg (told ++ line (ansTxt (g.step ⟨2, n, 0, o⟩).2 (decide (o.kind = 2)))) * (gld bg (g.step ⟨2, n, 0, o⟩).1 * (wds v (w1 :: r) * (lay w0 * R)))) := by
  have hrl := numsOf_len hr
  obtain ⟨gl, cl, rfl, c1, c2⟩ := wds_cons h.three
  obtain ⟨wa, hwa, H0, Q0⟩ : ∃ wa, w.alloc (.cells #[.int .i64 0, .int .i64 0, .int .i64 0, .int .i64 0, .int .i64 0, .int .i64 0, .int .i64 0, .int .i64 0, .int .i64 0] 86) = wa ∧ Hid (Holds wa (bl w.heap.size 86 (zstep 0) * (kst b bg told * (gld bg g * (wds (.slice (some ⟨gl, 0, none⟩) (r.length + 1) cl) (w1 :: r) * (lay w0 * R)))))) ∧ Hid (Quiet w wa) :=
    ⟨_, rfl, Lib.hid (h.boxB (ty := 86) (cs := zstep 0) rfl), Lib.hid ((Quiet.refl w).alloc _)⟩
  have HR := Lib.hid hr; have HO := Lib.hid ho; have HS := Lib.hid hs; have HG := Lib.hid hg
  have hb0 := bytes_no h1
  simp only [tTear] at hb0
  clear h hr ho hs hg h1
  obtain ⟨qx, hqx⟩ : ∃ qx, w.heap.size = qx := ⟨_, rfl⟩
  rw [hqx] at H0
  have hr2 : r.length = m.length + 1 := by rw [← hrl]; rfl
  have hl2 : ¬ ((r.length : Int) + 1 < 2) := by omega
  clear hrl
  go_enter Tryz.func24, Tryz.ntmps24
  go_wp2_with (first | (refine wpList_built rfl 86 _ rfl (zstep 2) (by kernel_rfl) ?_) | (refine wpList_store_whole rfl 86 _ _ rfl qx (zstep 2) rfl rfl H0.out.bl rfl (by kernel_rfl) (by simp [Ones, zstep, Value.oneCell']) ?_; intro wb h1' h2' h3'; have HB := Lib.hid (H0.out.grown h2' h1'); have QB := Lib.hid (Q0.out.trans (Quiet.grown h2')); have l0 := wds_cells HB.out.four 0 _ rfl; clear h1' h2' h3'))
  have hv2 : RowAt wb (.slice (some ⟨gl, 1, none⟩) (m.length + 1) (cl - 1)) r.length (svls r) := by rw [hr2]; exact wds_tail HB.out.four (by simp <;> omega) (by omega) (by omega)
  refine (numbers_sl _ r (n :: m) _ (HB.out.eq (by ac_rfl : _ = lay w0 * (bl qx 86 (zstep 2) * (kst b bg told * (gld bg g * (wds (.slice (some ⟨gl, 0, none⟩) (r.length + 1) cl) (w1 :: r) * R)))))) hv2 (by omega) (fun s hs => HS.out s (List.mem_cons_of_mem _ hs)) HR.out).mono ?_
  rintro e w5 ⟨v5, rfl, q5, h5⟩
  obtain ⟨gn, cn, rfl, d1, d2⟩ := inum_cons h5
  have H5 := Lib.hid h5; have Q5 := Lib.hid (QB.out.trans q5)
  clear h5 q5 hv2
  go_wp2_with fail
  have l5 : w5.drew.cell? ⟨gl, 0, none⟩ = some (.string (strOf w1)) := wds_cells (H5.out.drew.eq (by ac_rfl : _ = wds (.slice (some ⟨gl, 0, none⟩) (r.length + 1) cl) (w1 :: r) * (inum (.slice (some ⟨gn, 0, none⟩) (m.length + 1) cn) (n :: m) * (lay w0 * (bl qx 86 (zstep 2) * (kst b bg told * (gld bg g * R))))))) 0 _ rfl
  refine wp_region_lexH (fun W => W.cell? ⟨gl, 0, none⟩ = some (.string (strOf w1))) [5, 10] [9] (fz1 9 84 zord) _ (by kernel_rfl) (by kernel_rfl) (by kernel_rfl) fz1_fl fz1_no (fz1_ok rfl ⟨rfl, fun a w => by kernel_rfl⟩) (fun W o h => cell_alloc_keep h o) l5 H5.out.drew ?_
  clear l5
  have hp1 : (0 : Int) < (m.length : Int) + 1 + 1 := by omega
  have hp2 : ¬ (m.length : Int) + 1 < 1 := by omega
  repeat (first | (refine LexHL.still (v := ?_) (by rfl) (by rfl) ?_ ?_; rotate_left; (focus (intro W hW; (try dsimp only at hW); go_simp; (try (with_reducible rfl)); done)); (try simp only [Act.put, List.setIfInBounds_toArray, List.set_cons_zero, List.set_cons_succ])))
  obtain ⟨vn, hvn⟩ : ∃ vn : Option Addr, (if cn = 1 then some ⟨gn, 0, none⟩ else some ⟨gn, 1, none⟩) = vn := ⟨_, rfl⟩
  have HVN := Lib.hid hvn; clear hvn
  refine LexHL.still (v := .slice vn m.length (cn - 1)) rfl rfl (fun W hW => by rw [← HVN.out]; go_simp) ?_
  try simp only [Act.put, List.setIfInBounds_toArray, List.set_cons_zero, List.set_cons_succ]
  refine LexHL.call (f := 42) (args := #[.string (strOf w1), .slice vn m.length (cn - 1)]) rfl rfl (by decide) (fun W hS => by go_simp) ?_
  intro W R1 hS hq hA
  have hrow : RowAt W (.slice vn m.length (cn - 1)) m.length (ivs m) := by
    rw [← HVN.out]
    have := inum_tail (show Holds W (rw_ 3 1 (.slice (some ⟨gn, 0, none⟩) (m.length + 1) cn) (m.length + 1) (ivs (n :: m)) * _) from hA.eq (HP.assoc _ _ _)) rfl (by omega)
    simpa using this
  refine (order_sl _ w1 m o W hrow HO.out hA).mono ?_
  rintro e w6 ⟨rfl, q6, h6⟩
  refine ⟨_, rfl, wds_cells (h6.eq (by ac_rfl : _ = wds (.slice (some ⟨gl, 0, none⟩) (r.length + 1) cl) (w1 :: r) * (inum (.slice (some ⟨gn, 0, none⟩) (m.length + 1) cn) (n :: m) * (lay w0 * (bl qx 86 (zstep 2) * (kst b bg told * (gld bg g * R)))) * R1))) 0 _ rfl, hq.trans q6, _, h6, ?_⟩
  clear hS hq hA hrow q6 h6
  dsimp only
  repeat (first | (refine LexHL.still (v := ?_) (by rfl) (by rfl) ?_ ?_; rotate_left; (focus (intro W hW; (try dsimp only at hW); go_simp; (try (with_reducible rfl)); done)); (try simp only [Act.put, List.setIfInBounds_toArray, List.set_cons_zero, List.set_cons_succ])))
  refine LexHL.made rfl ?_
  intro qo hlv
  clear hlv
  try simp only [Act.put, List.setIfInBounds_toArray, List.set_cons_zero, List.set_cons_succ]
  refine LexHL.storeB (q := qo) (t := 84) (cs := zord) (B := inum (.slice (some ⟨gn, 0, none⟩) (m.length + 1) cn) (n :: m) * (lay w0 * (bl qx 86 (zstep 2) * (kst b bg told * (gld bg g * (wds (.slice (some ⟨gl, 0, none⟩) (r.length + 1) cl) (w1 :: r) * R)))))) 84 _ _ rfl [.int .i64 o.kind, .int .i64 o.now, .int .i64 o.job, .int .i64 o.tr, .int .i64 o.wk, .int .i64 o.tm] rfl rfl rfl (by kernel_rfl) (by simp [Ones, Value.oneCell']) rfl rfl (by decide) rfl (fun W R2 h => wds_cells (h.eq (by ac_rfl : _ = wds (.slice (some ⟨gl, 0, none⟩) (r.length + 1) cl) (w1 :: r) * (bl qo 84 [.int .i64 o.kind, .int .i64 o.now, .int .i64 o.job, .int .i64 o.tr, .int .i64 o.wk, .int .i64 o.tm] * (inum (.slice (some ⟨gn, 0, none⟩) (m.length + 1) cn) (n :: m) * (lay w0 * (bl qx 86 (zstep 2) * (kst b bg told * (gld bg g * R))))) * R2))) 0 _ rfl) ?_
  try simp only [Act.put, List.setIfInBounds_toArray, List.set_cons_zero, List.set_cons_succ]
  repeat (first | (refine LexHL.still (v := ?_) (by rfl) (by rfl) ?_ ?_; rotate_left; (focus (intro W hW; (try dsimp only at hW); go_simp; (try (with_reducible rfl)); done)); (try simp only [Act.put, List.setIfInBounds_toArray, List.set_cons_zero, List.set_cons_succ])))
  refine LexHL.done ?_
  intro W hS hA hq
  have HA := Lib.hid hA; have QA := Lib.hid (Q5.out.drew.trans hq)
  clear hS hA hq
  have hord : ∀ (W : World), Holds W (bl qo 84 [.int .i64 o.kind, .int .i64 o.now, .int .i64 o.job, .int .i64 o.tr, .int .i64 o.wk, .int .i64 o.tm] * (inum (.slice (some ⟨gn, 0, none⟩) (m.length + 1) cn) (n :: m) * (lay w0 * (bl qx 86 (zstep 2) * (kst b bg told * (gld bg g * (wds (.slice (some ⟨gl, 0, none⟩) (r.length + 1) cl) (w1 :: r) * R))))))) → True := fun _ _ => trivial
  clear hord
  go_wp2_with fail
  have HX := Lib.hid (HA.out.drew.eq (by ac_rfl : _ = bl qx 86 (zstep 2) * (bl qo 84 [.int .i64 o.kind, .int .i64 o.now, .int .i64 o.job, .int .i64 o.tr, .int .i64 o.wk, .int .i64 o.tm] * (inum (.slice (some ⟨gn, 0, none⟩) (m.length + 1) cn) (n :: m) * (lay w0 * (kst b bg told * (gld bg g * (wds (.slice (some ⟨gl, 0, none⟩) (r.length + 1) cl) (w1 :: r) * R))))))))
  have y1 := HX.out.bl.cell 1 _ rfl
  have f1 := HX.out.bl.free 1
  refine wp_region_lex (fun W => W.cell? ⟨gn, 0, none⟩ = some (.int .i64 n) ∧ BlockAt W qo 84 [.int .i64 o.kind, .int .i64 o.now, .int .i64 o.job, .int .i64 o.tr, .int .i64 o.wk, .int .i64 o.tm]) [5, 7] (by kernel_rfl) (by kernel_rfl) ⟨inum_cell HX.out.three 0 _ rfl, HX.out.two.bl⟩ ?_
  repeat (first | (refine LexL.none (by rfl) ?_; (try simp only [Act.put, List.setIfInBounds_toArray, List.set_cons_zero, List.set_cons_succ])) | (refine LexL.still (v := ?_) (by rfl) ?_ ?_; rotate_left; (focus (intro W hW; (try dsimp only at hW); go_simp; (try (with_reducible rfl)); done)); (try simp only [Act.put, List.setIfInBounds_toArray, List.set_cons_zero, List.set_cons_succ])))
  refine LexL.still (v := .agg #[.int .i64 o.kind, .int .i64 o.now, .int .i64 o.job, .int .i64 o.tr, .int .i64 o.wk, .int .i64 o.tm]) (by rfl) (fun W hW => exec_load_part 84 _ rfl qo 0 rfl [.int .i64 o.kind, .int .i64 o.now, .int .i64 o.job, .int .i64 o.tr, .int .i64 o.wk, .int .i64 o.tm] hW.2 rfl Tryz.underlying84 rfl (by kernel_rfl)) ?_
  try simp only [Act.put, List.setIfInBounds_toArray, List.set_cons_zero, List.set_cons_succ]
  repeat (first | (refine LexL.none (by rfl) ?_; (try simp only [Act.put, List.setIfInBounds_toArray, List.set_cons_zero, List.set_cons_succ])) | (refine LexL.still (v := ?_) (by rfl) ?_ ?_; rotate_left; (focus (intro W hW; (try dsimp only at hW); go_simp; (try (with_reducible rfl)); done)); (try simp only [Act.put, List.setIfInBounds_toArray, List.set_cons_zero, List.set_cons_succ])))
  have HX2 := Lib.hid (HX.out.setB 1 (.int .i64 n))
  refine LexL.store (w1 := W.drew.setCell ⟨qx, 1, none⟩ (.int .i64 n)) (by rfl) (by decide) (by go_simp) ⟨inum_cell HX2.out.three 0 _ rfl, HX2.out.two.bl⟩ ?_
  try simp only [Act.put, List.setIfInBounds_toArray, List.set_cons_zero, List.set_cons_succ]
  repeat (first | (refine LexL.none (by rfl) ?_; (try simp only [Act.put, List.setIfInBounds_toArray, List.set_cons_zero, List.set_cons_succ])) | (refine LexL.still (v := ?_) (by rfl) ?_ ?_; rotate_left; (focus (intro W hW; (try dsimp only at hW); go_simp; (try (with_reducible rfl)); done)); (try simp only [Act.put, List.setIfInBounds_toArray, List.set_cons_zero, List.set_cons_succ])))
  refine LexL.storeP (q := qx) (off := 3) (t := 86) (cs := (zstep 2).set 1 (.int .i64 n)) 84 _ _ rfl [.int .i64 o.kind, .int .i64 o.now, .int .i64 o.job, .int .i64 o.tr, .int .i64 o.wk, .int .i64 o.tm] rfl rfl (by simp [zstep]) (by kernel_rfl) (by simp [Ones, Value.oneCell']) (by rfl) (by decide) HX2.out ?_
  intro W3 h3 q3
  have H3 : Hid (Holds W3 (bl qx 86 [.int .i64 2, .int .i64 n, .int .i64 0, .int .i64 o.kind, .int .i64 o.now, .int .i64 o.job, .int .i64 o.tr, .int .i64 o.wk, .int .i64 o.tm] * (bl qo 84 [.int .i64 o.kind, .int .i64 o.now, .int .i64 o.job, .int .i64 o.tr, .int .i64 o.wk, .int .i64 o.tm] * (inum (.slice (some ⟨gn, 0, none⟩) (m.length + 1) cn) (n :: m) * (lay w0 * (kst b bg told * (gld bg g * (wds (.slice (some ⟨gl, 0, none⟩) (r.length + 1) cl) (w1 :: r) * R)))))))) := Lib.hid h3
  have Q3 := Lib.hid ((QA.out.drew.setCell ⟨qx, 1, none⟩ (.int .i64 n)).trans q3)
  refine ⟨⟨inum_cell H3.out.three 0 _ rfl, H3.out.two.bl⟩, ?_⟩
  clear h3 q3 y1 f1
  try simp only [Act.put, List.setIfInBounds_toArray, List.set_cons_zero, List.set_cons_succ]
  refine LexL.done ?_
  go_wp2_with fail
  obtain ⟨RX, hRX⟩ : ∃ RX : HP, (bl qx 86 [.int .i64 2, .int .i64 n, .int .i64 0, .int .i64 o.kind, .int .i64 o.now, .int .i64 o.job, .int .i64 o.tr, .int .i64 o.wk, .int .i64 o.tm] * (bl qo 84 [.int .i64 o.kind, .int .i64 o.now, .int .i64 o.job, .int .i64 o.tr, .int .i64 o.wk, .int .i64 o.tm] * inum (.slice (some ⟨gn, 0, none⟩) (m.length + 1) cn) (n :: m))) = RX := ⟨_, rfl⟩
  have hx4 : Holds W3.drew (gld bg g * (kst b bg told * (lay w0 * (RX * (wds (.slice (some ⟨gl, 0, none⟩) (r.length + 1) cl) (w1 :: r) * R))))) := by
    rw [← hRX]
    exact H3.out.drew.eq (by ac_rfl)
  have mkS : ∀ (W : World) (td : List UInt8) (A B : HP), Holds W (A * (kst b bg td * (lay w0 * (RX * B)))) → W.cell? ⟨b, 2, none⟩ = some (.pointer (some ⟨bg, 0, none⟩)) ∧ BlockAt W qx 86 [.int .i64 2, .int .i64 n, .int .i64 0, .int .i64 o.kind, .int .i64 o.now, .int .i64 o.job, .int .i64 o.tr, .int .i64 o.wk, .int .i64 o.tm] ∧ W.cell? ⟨qx, 0, none⟩ = some (.int .i64 2) ∧ W.cell? ⟨qo, 0, none⟩ = some (.int .i64 o.kind) := fun W td A B h => by
    have h2 := h.four
    rw [← hRX] at h2
    exact ⟨kst_bg h.two, h2.left.bl, h2.left.bl.cell 0 _ rfl, h2.left.two.bl.cell 0 _ rfl⟩
  have HX4 := Lib.hid hx4; have MKS := Lib.hid mkS; have HRX := Lib.hid hRX
  clear hx4 mkS hRX
  obtain ⟨lg, hlg⟩ := HG.out
  have HA4 := Lib.hid (step_small hlg ⟨2, n, 0, o⟩)
  refine wp_region_lex (fun W => W.cell? ⟨b, 2, none⟩ = some (.pointer (some ⟨bg, 0, none⟩)) ∧ BlockAt W qx 86 [.int .i64 2, .int .i64 n, .int .i64 0, .int .i64 o.kind, .int .i64 o.now, .int .i64 o.job, .int .i64 o.tr, .int .i64 o.wk, .int .i64 o.tm] ∧ W.cell? ⟨qx, 0, none⟩ = some (.int .i64 2) ∧ W.cell? ⟨qo, 0, none⟩ = some (.int .i64 o.kind)) [6, 15] (by kernel_rfl) (by kernel_rfl) (MKS.out _ _ _ _ HX4.out) ?_
  repeat (first | (refine LexL.none (by rfl) ?_; (try simp only [Act.put, List.setIfInBounds_toArray, List.set_cons_zero, List.set_cons_succ])) | (refine LexL.still (v := ?_) (by rfl) ?_ ?_; rotate_left; (focus (intro W hW; (try dsimp only at hW); go_simp; (try (with_reducible rfl)); done)); (try simp only [Act.put, List.setIfInBounds_toArray, List.set_cons_zero, List.set_cons_succ])))
  refine LexL.still (v := .agg #[.int .i64 2, .int .i64 n, .int .i64 0, .int .i64 o.kind, .int .i64 o.now, .int .i64 o.job, .int .i64 o.tr, .int .i64 o.wk, .int .i64 o.tm]) (by rfl) (fun W hW => exec_load_part 86 _ rfl qx 0 rfl [.int .i64 2, .int .i64 n, .int .i64 0, .int .i64 o.kind, .int .i64 o.now, .int .i64 o.job, .int .i64 o.tr, .int .i64 o.wk, .int .i64 o.tm] hW.2.1 rfl Tryz.underlying86 rfl (by kernel_rfl)) ?_
  try simp only [Act.put, List.setIfInBounds_toArray, List.set_cons_zero, List.set_cons_succ]
  refine LexL.call (f := 44) (args := #[.pointer (some ⟨bg, 0, none⟩), .agg #[.int .i64 2, .int .i64 n, .int .i64 0, .int .i64 o.kind, .int .i64 o.now, .int .i64 o.job, .int .i64 o.tr, .int .i64 o.wk, .int .i64 o.tm]]) (w1 := W3.drew) (by rfl) (by decide) (by go_simp) ?_
  refine (gstep_sl bg g 2 n 0 o.kind o.now o.job o.tr o.wk o.tm _ HX4.out HG.out).mono ?_
  rintro e W5 ⟨rfl, q5, h5⟩
  have H5' := Lib.hid (show Holds W5 (gld bg (g.step ⟨2, n, 0, o⟩).1 * _) from h5); have Q5' := Lib.hid (Q3.out.drew.trans q5)
  clear h5 q5
  refine ⟨_, rfl, MKS.out _ _ _ _ H5'.out, ?_⟩
  try simp only [Act.put, List.setIfInBounds_toArray, List.set_cons_zero, List.set_cons_succ]
  repeat (first | (refine LexL.none (by rfl) ?_; (try simp only [Act.put, List.setIfInBounds_toArray, List.set_cons_zero, List.set_cons_succ])) | (refine LexL.still (v := ?_) (by rfl) ?_ ?_; rotate_left; (focus (intro W hW; (try dsimp only at hW); go_simp; (try (with_reducible rfl)); done)); (try simp only [Act.put, List.setIfInBounds_toArray, List.set_cons_zero, List.set_cons_succ])))
  refine LexL.call (f := 43) (args := #[.pointer (some ⟨b, 0, none⟩), (g.step ⟨2, n, 0, o⟩).2.val, .bool (decide (o.kind = 2))]) (w1 := W5) (by rfl) (by decide) (by go_simp; rfl) ?_
  refine (answer_sl b bg told (g.step ⟨2, n, 0, o⟩).2 (decide (o.kind = 2)) W5 (H5'.out.two.eq (by ac_rfl : _ = kst b bg told * (lay w0 * (gld bg (g.step ⟨2, n, 0, o⟩).1 * (RX * (wds (.slice (some ⟨gl, 0, none⟩) (r.length + 1) cl) (w1 :: r) * R)))))) HA4.out (by omega)).mono ?_
  rintro e W6 ⟨rfl, q6, h6⟩
  have H6 := Lib.hid (h6.eq (by ac_rfl : _ = RX * (kst b bg (told ++ line (ansTxt (g.step ⟨2, n, 0, o⟩).2 (decide (o.kind = 2)))) * (gld bg (g.step ⟨2, n, 0, o⟩).1 * (wds (.slice (some ⟨gl, 0, none⟩) (r.length + 1) cl) (w1 :: r) * (lay w0 * R))))))
  have Q6 := Lib.hid (Q5'.out.trans q6)
  refine ⟨_, rfl, MKS.out _ _ (gld bg (g.step ⟨2, n, 0, o⟩).1) _ (H6.out.eq (by ac_rfl : _ = gld bg (g.step ⟨2, n, 0, o⟩).1 * (kst b bg (told ++ line (ansTxt (g.step ⟨2, n, 0, o⟩).2 (decide (o.kind = 2)))) * (lay w0 * (RX * (wds (.slice (some ⟨gl, 0, none⟩) (r.length + 1) cl) (w1 :: r) * R)))))), ?_⟩
  clear h6 q6
  try simp only [Act.put, List.setIfInBounds_toArray, List.set_cons_zero, List.set_cons_succ]
  refine LexL.done ?_
  go_wp2
  go_ret
  exact ⟨rfl, Q6.out, H6.out.right⟩
end Go.Proofs.YtfihmpkkpgmdhaaGreatDoor

/-
  desk.step: open, down, tick.
-/
namespace Go.Proofs.YtfihmpkkpgmdhaaGreatDoor
set_option maxRecDepth 100000
set_option linter.unusedSimpArgs false
set_option linter.unusedVariables false
set_option linter.unnecessarySimpa false
open Go.RowKit
def swords : List (List UInt8) := [[], tOpen, [], [], tDown, tTick]
theorem sidx_Open : Lib.idxOfS (swords.map strOf) (strOf tOpen) = 1 := by decide +kernel
theorem sidx_Down : Lib.idxOfS (swords.map strOf) (strOf tDown) = 4 := by decide +kernel
theorem sidx_Tick : Lib.idxOfS (swords.map strOf) (strOf tTick) = 5 := by decide +kernel
theorem swords_row {w : World} {g : Nat} (hg : w.heap.size = g) (cs : Array Value) (hc : cs = (svls swords).toArray) (ty : TypeId) : RowAt (w.alloc (.cells cs ty)) (.slice (some ⟨g, 0, none⟩) 6 6) swords.length (svls swords) := svls_row (l := swords) hg (by decide) cs hc ty
set_option maxHeartbeats 4000000 in
theorem step_Open (b bg : Nat) (told : List UInt8) (g : Gld) (v : Value) (a : Int) (w : World) {w0 : World} {R : HP} (h : Holds w (kst b bg told * (gld bg g * (inum v [a] * (lay w0 * R))))) (hg : g.Good) (ht : told.length ≤ 300000000) :
    Calls Tryz.prog 26 #[.pointer (some ⟨b, 0, none⟩), .string (strOf tOpen), v] w fun e w' => e = .returned (.bool true) ∧ Quiet w w' ∧ Holds w' (kst b bg (told ++ line (ansTxt (g.step ⟨1, a, 0, Ord.zero⟩).2 false)) * (gld bg (g.step ⟨1, a, 0, Ord.zero⟩).1 * (inum v [a] * (lay w0 * R)))) := by
  obtain ⟨gn, cn, rfl, d1, d2⟩ := inum_cons h.three
  simp only [List.length_nil, Nat.zero_add] at d1 h ⊢
  have HX := Lib.hid sidx_Open
  have H0 := Lib.hid (h.alloc (.cells (svls swords).toArray 9)); have HG := Lib.hid hg
  clear h hg
  go_enter Tryz.func26, Tryz.ntmps26
  go_wp2_with fail
  refine (index_sl _ swords tOpen _ (swords_row rfl _ rfl _) (by decide) (by decide)).mono ?_
  rw [HX.out]
  rintro e w2 ⟨rfl, rfl⟩
  go_wp2_with fail
  have hx4 : Holds (w.alloc (.cells (svls swords).toArray 9)).drew (gld bg g * (kst b bg told * (inum (.slice (some ⟨gn, 0, none⟩) 1 cn) [a] * (lay w0 * R)))) := H0.out.drew.two
  have mkS : ∀ (W : World) (td : List UInt8) (A : HP), Holds W (A * (kst b bg td * (inum (.slice (some ⟨gn, 0, none⟩) 1 cn) [a] * (lay w0 * R)))) → W.cell? ⟨b, 2, none⟩ = some (.pointer (some ⟨bg, 0, none⟩)) ∧ W.cell? ⟨gn, 0, none⟩ = some (.int .i64 a) := fun W td A h => ⟨kst_bg h.two, inum_cell h.three 0 _ rfl⟩
  have HX4 := Lib.hid hx4; have MKS := Lib.hid mkS
  clear hx4 mkS
  obtain ⟨lg, hlg⟩ := HG.out
  have HA4 := Lib.hid (step_small hlg ⟨1, a, 0, Ord.zero⟩)
  refine wp_region_lex (fun W => W.cell? ⟨b, 2, none⟩ = some (.pointer (some ⟨bg, 0, none⟩)) ∧ W.cell? ⟨gn, 0, none⟩ = some (.int .i64 a)) [10, 11] (by kernel_rfl) (by kernel_rfl) (MKS.out _ _ _ HX4.out) ?_
  iterate 9 ((first | (refine LexL.none (by rfl) ?_; (try simp only [Act.put, List.setIfInBounds_toArray, List.set_cons_zero, List.set_cons_succ])) | (refine LexL.still (v := ?_) (by rfl) ?_ ?_; rotate_left; (focus (intro W hW; (try dsimp only at hW); go_simp; (try (with_reducible rfl)); done)); (try simp only [Act.put, List.setIfInBounds_toArray, List.set_cons_zero, List.set_cons_succ]))))
  refine LexL.still (v := .agg #[.int .i64 1, .int .i64 a, .int .i64 0, .int .i64 0, .int .i64 0, .int .i64 0, .int .i64 0, .int .i64 0, .int .i64 0]) (by rfl) (fun W hW => exec_built 86 _ rfl [.int .i64 1, .int .i64 a, .int .i64 0, .int .i64 0, .int .i64 0, .int .i64 0, .int .i64 0, .int .i64 0, .int .i64 0] (by kernel_rfl)) ?_
  try simp only [Act.put, List.setIfInBounds_toArray, List.set_cons_zero, List.set_cons_succ]
  refine LexL.call (f := 44) (args := #[.pointer (some ⟨bg, 0, none⟩), .agg #[.int .i64 1, .int .i64 a, .int .i64 0, .int .i64 0, .int .i64 0, .int .i64 0, .int .i64 0, .int .i64 0, .int .i64 0]]) (w1 := (w.alloc (.cells (svls swords).toArray 9)).drew) (by rfl) (by decide) (by go_simp) ?_
  refine (gstep_sl bg g 1 a 0 0 0 0 0 0 0 _ HX4.out HG.out).mono ?_
  rintro e W5 ⟨rfl, q5, h5⟩
  have H5 := Lib.hid (show Holds W5 (gld bg (g.step ⟨1, a, 0, Ord.zero⟩).1 * _) from h5); have Q5 := Lib.hid ((((Quiet.refl w).alloc _).drew).trans q5)
  clear h5 q5
  refine ⟨_, rfl, MKS.out _ _ _ H5.out, ?_⟩
  try simp only [Act.put, List.setIfInBounds_toArray, List.set_cons_zero, List.set_cons_succ]
  repeat (first | (refine LexL.none (by rfl) ?_; (try simp only [Act.put, List.setIfInBounds_toArray, List.set_cons_zero, List.set_cons_succ])) | (refine LexL.still (v := ?_) (by rfl) ?_ ?_; rotate_left; (focus (intro W hW; (try dsimp only at hW); go_simp; (try (with_reducible rfl)); done)); (try simp only [Act.put, List.setIfInBounds_toArray, List.set_cons_zero, List.set_cons_succ])))
  refine LexL.call (f := 43) (args := #[.pointer (some ⟨b, 0, none⟩), (g.step ⟨1, a, 0, Ord.zero⟩).2.val, .bool false]) (w1 := W5) (by rfl) (by decide) (by go_simp <;> rfl) ?_
  refine (answer_sl b bg told (g.step ⟨1, a, 0, Ord.zero⟩).2 false W5 (H5.out.eq (by ac_rfl : _ = kst b bg told * (lay w0 * (gld bg (g.step ⟨1, a, 0, Ord.zero⟩).1 * (inum (.slice (some ⟨gn, 0, none⟩) 1 cn) [a] * R))))) HA4.out (by omega)).mono ?_
  rintro e W6 ⟨rfl, q6, h6⟩
  have H6 := Lib.hid (h6.eq (by ac_rfl : _ = kst b bg (told ++ line (ansTxt (g.step ⟨1, a, 0, Ord.zero⟩).2 false)) * (gld bg (g.step ⟨1, a, 0, Ord.zero⟩).1 * (inum (.slice (some ⟨gn, 0, none⟩) 1 cn) [a] * (lay w0 * R)))))
  have Q6 := Lib.hid (Q5.out.trans q6)
  refine ⟨_, rfl, MKS.out _ _ (gld bg (g.step ⟨1, a, 0, Ord.zero⟩).1) H6.out.two, ?_⟩
  clear h6 q6
  try simp only [Act.put, List.setIfInBounds_toArray, List.set_cons_zero, List.set_cons_succ]
  refine LexL.done ?_
  go_wp2
  go_ret
  exact ⟨rfl, Q6.out, H6.out⟩
set_option maxHeartbeats 4000000 in
theorem step_Down (b bg : Nat) (told : List UInt8) (g : Gld) (v : Value) (a : Int) (w : World) {w0 : World} {R : HP} (h : Holds w (kst b bg told * (gld bg g * (inum v [a] * (lay w0 * R))))) (hg : g.Good) (ht : told.length ≤ 300000000) :
    Calls Tryz.prog 26 #[.pointer (some ⟨b, 0, none⟩), .string (strOf tDown), v] w fun e w' => e = .returned (.bool true) ∧ Quiet w w' ∧ Holds w' (kst b bg (told ++ line (ansTxt (g.step ⟨4, a, 0, Ord.zero⟩).2 false)) * (gld bg (g.step ⟨4, a, 0, Ord.zero⟩).1 * (inum v [a] * (lay w0 * R)))) := by
  obtain ⟨gn, cn, rfl, d1, d2⟩ := inum_cons h.three
  simp only [List.length_nil, Nat.zero_add] at d1 h ⊢
  have HX := Lib.hid sidx_Down
  have H0 := Lib.hid (h.alloc (.cells (svls swords).toArray 9)); have HG := Lib.hid hg
  clear h hg
  go_enter Tryz.func26, Tryz.ntmps26
  go_wp2_with fail
  refine (index_sl _ swords tDown _ (swords_row rfl _ rfl _) (by decide) (by decide)).mono ?_
  rw [HX.out]
  rintro e w2 ⟨rfl, rfl⟩
  go_wp2_with fail
  have hx4 : Holds (w.alloc (.cells (svls swords).toArray 9)).drew (gld bg g * (kst b bg told * (inum (.slice (some ⟨gn, 0, none⟩) 1 cn) [a] * (lay w0 * R)))) := H0.out.drew.two
  have mkS : ∀ (W : World) (td : List UInt8) (A : HP), Holds W (A * (kst b bg td * (inum (.slice (some ⟨gn, 0, none⟩) 1 cn) [a] * (lay w0 * R)))) → W.cell? ⟨b, 2, none⟩ = some (.pointer (some ⟨bg, 0, none⟩)) ∧ W.cell? ⟨gn, 0, none⟩ = some (.int .i64 a) := fun W td A h => ⟨kst_bg h.two, inum_cell h.three 0 _ rfl⟩
  have HX4 := Lib.hid hx4; have MKS := Lib.hid mkS
  clear hx4 mkS
  obtain ⟨lg, hlg⟩ := HG.out
  have HA4 := Lib.hid (step_small hlg ⟨4, a, 0, Ord.zero⟩)
  refine wp_region_lex (fun W => W.cell? ⟨b, 2, none⟩ = some (.pointer (some ⟨bg, 0, none⟩)) ∧ W.cell? ⟨gn, 0, none⟩ = some (.int .i64 a)) [10, 11] (by kernel_rfl) (by kernel_rfl) (MKS.out _ _ _ HX4.out) ?_
  iterate 9 ((first | (refine LexL.none (by rfl) ?_; (try simp only [Act.put, List.setIfInBounds_toArray, List.set_cons_zero, List.set_cons_succ])) | (refine LexL.still (v := ?_) (by rfl) ?_ ?_; rotate_left; (focus (intro W hW; (try dsimp only at hW); go_simp; (try (with_reducible rfl)); done)); (try simp only [Act.put, List.setIfInBounds_toArray, List.set_cons_zero, List.set_cons_succ]))))
  refine LexL.still (v := .agg #[.int .i64 4, .int .i64 a, .int .i64 0, .int .i64 0, .int .i64 0, .int .i64 0, .int .i64 0, .int .i64 0, .int .i64 0]) (by rfl) (fun W hW => exec_built 86 _ rfl [.int .i64 4, .int .i64 a, .int .i64 0, .int .i64 0, .int .i64 0, .int .i64 0, .int .i64 0, .int .i64 0, .int .i64 0] (by kernel_rfl)) ?_
  try simp only [Act.put, List.setIfInBounds_toArray, List.set_cons_zero, List.set_cons_succ]
  refine LexL.call (f := 44) (args := #[.pointer (some ⟨bg, 0, none⟩), .agg #[.int .i64 4, .int .i64 a, .int .i64 0, .int .i64 0, .int .i64 0, .int .i64 0, .int .i64 0, .int .i64 0, .int .i64 0]]) (w1 := (w.alloc (.cells (svls swords).toArray 9)).drew) (by rfl) (by decide) (by go_simp) ?_
  refine (gstep_sl bg g 4 a 0 0 0 0 0 0 0 _ HX4.out HG.out).mono ?_
  rintro e W5 ⟨rfl, q5, h5⟩
  have H5 := Lib.hid (show Holds W5 (gld bg (g.step ⟨4, a, 0, Ord.zero⟩).1 * _) from h5); have Q5 := Lib.hid ((((Quiet.refl w).alloc _).drew).trans q5)
  clear h5 q5
  refine ⟨_, rfl, MKS.out _ _ _ H5.out, ?_⟩
  try simp only [Act.put, List.setIfInBounds_toArray, List.set_cons_zero, List.set_cons_succ]
  repeat (first | (refine LexL.none (by rfl) ?_; (try simp only [Act.put, List.setIfInBounds_toArray, List.set_cons_zero, List.set_cons_succ])) | (refine LexL.still (v := ?_) (by rfl) ?_ ?_; rotate_left; (focus (intro W hW; (try dsimp only at hW); go_simp; (try (with_reducible rfl)); done)); (try simp only [Act.put, List.setIfInBounds_toArray, List.set_cons_zero, List.set_cons_succ])))
  refine LexL.call (f := 43) (args := #[.pointer (some ⟨b, 0, none⟩), (g.step ⟨4, a, 0, Ord.zero⟩).2.val, .bool false]) (w1 := W5) (by rfl) (by decide) (by go_simp <;> rfl) ?_
  refine (answer_sl b bg told (g.step ⟨4, a, 0, Ord.zero⟩).2 false W5 (H5.out.eq (by ac_rfl : _ = kst b bg told * (lay w0 * (gld bg (g.step ⟨4, a, 0, Ord.zero⟩).1 * (inum (.slice (some ⟨gn, 0, none⟩) 1 cn) [a] * R))))) HA4.out (by omega)).mono ?_
  rintro e W6 ⟨rfl, q6, h6⟩
  have H6 := Lib.hid (h6.eq (by ac_rfl : _ = kst b bg (told ++ line (ansTxt (g.step ⟨4, a, 0, Ord.zero⟩).2 false)) * (gld bg (g.step ⟨4, a, 0, Ord.zero⟩).1 * (inum (.slice (some ⟨gn, 0, none⟩) 1 cn) [a] * (lay w0 * R)))))
  have Q6 := Lib.hid (Q5.out.trans q6)
  refine ⟨_, rfl, MKS.out _ _ (gld bg (g.step ⟨4, a, 0, Ord.zero⟩).1) H6.out.two, ?_⟩
  clear h6 q6
  try simp only [Act.put, List.setIfInBounds_toArray, List.set_cons_zero, List.set_cons_succ]
  refine LexL.done ?_
  go_wp2
  go_ret
  exact ⟨rfl, Q6.out, H6.out⟩
set_option maxHeartbeats 4000000 in
theorem step_Tick (b bg : Nat) (told : List UInt8) (g : Gld) (v : Value) (a : Int) (w : World) {w0 : World} {R : HP} (h : Holds w (kst b bg told * (gld bg g * (inum v [a] * (lay w0 * R))))) (hg : g.Good) (ht : told.length ≤ 300000000) :
    Calls Tryz.prog 26 #[.pointer (some ⟨b, 0, none⟩), .string (strOf tTick), v] w fun e w' => e = .returned (.bool true) ∧ Quiet w w' ∧ Holds w' (kst b bg (told ++ line (ansTxt (g.step ⟨5, a, 0, Ord.zero⟩).2 false)) * (gld bg (g.step ⟨5, a, 0, Ord.zero⟩).1 * (inum v [a] * (lay w0 * R)))) := by
  obtain ⟨gn, cn, rfl, d1, d2⟩ := inum_cons h.three
  simp only [List.length_nil, Nat.zero_add] at d1 h ⊢
  have HX := Lib.hid sidx_Tick
  have H0 := Lib.hid (h.alloc (.cells (svls swords).toArray 9)); have HG := Lib.hid hg
  clear h hg
  go_enter Tryz.func26, Tryz.ntmps26
  go_wp2_with fail
  refine (index_sl _ swords tTick _ (swords_row rfl _ rfl _) (by decide) (by decide)).mono ?_
  rw [HX.out]
  rintro e w2 ⟨rfl, rfl⟩
  go_wp2_with fail
  have hx4 : Holds (w.alloc (.cells (svls swords).toArray 9)).drew (gld bg g * (kst b bg told * (inum (.slice (some ⟨gn, 0, none⟩) 1 cn) [a] * (lay w0 * R)))) := H0.out.drew.two
  have mkS : ∀ (W : World) (td : List UInt8) (A : HP), Holds W (A * (kst b bg td * (inum (.slice (some ⟨gn, 0, none⟩) 1 cn) [a] * (lay w0 * R)))) → W.cell? ⟨b, 2, none⟩ = some (.pointer (some ⟨bg, 0, none⟩)) ∧ W.cell? ⟨gn, 0, none⟩ = some (.int .i64 a) := fun W td A h => ⟨kst_bg h.two, inum_cell h.three 0 _ rfl⟩
  have HX4 := Lib.hid hx4; have MKS := Lib.hid mkS
  clear hx4 mkS
  obtain ⟨lg, hlg⟩ := HG.out
  have HA4 := Lib.hid (step_small hlg ⟨5, a, 0, Ord.zero⟩)
  refine wp_region_lex (fun W => W.cell? ⟨b, 2, none⟩ = some (.pointer (some ⟨bg, 0, none⟩)) ∧ W.cell? ⟨gn, 0, none⟩ = some (.int .i64 a)) [10, 11] (by kernel_rfl) (by kernel_rfl) (MKS.out _ _ _ HX4.out) ?_
  iterate 9 ((first | (refine LexL.none (by rfl) ?_; (try simp only [Act.put, List.setIfInBounds_toArray, List.set_cons_zero, List.set_cons_succ])) | (refine LexL.still (v := ?_) (by rfl) ?_ ?_; rotate_left; (focus (intro W hW; (try dsimp only at hW); go_simp; (try (with_reducible rfl)); done)); (try simp only [Act.put, List.setIfInBounds_toArray, List.set_cons_zero, List.set_cons_succ]))))
  refine LexL.still (v := .agg #[.int .i64 5, .int .i64 a, .int .i64 0, .int .i64 0, .int .i64 0, .int .i64 0, .int .i64 0, .int .i64 0, .int .i64 0]) (by rfl) (fun W hW => exec_built 86 _ rfl [.int .i64 5, .int .i64 a, .int .i64 0, .int .i64 0, .int .i64 0, .int .i64 0, .int .i64 0, .int .i64 0, .int .i64 0] (by kernel_rfl)) ?_
  try simp only [Act.put, List.setIfInBounds_toArray, List.set_cons_zero, List.set_cons_succ]
  refine LexL.call (f := 44) (args := #[.pointer (some ⟨bg, 0, none⟩), .agg #[.int .i64 5, .int .i64 a, .int .i64 0, .int .i64 0, .int .i64 0, .int .i64 0, .int .i64 0, .int .i64 0, .int .i64 0]]) (w1 := (w.alloc (.cells (svls swords).toArray 9)).drew) (by rfl) (by decide) (by go_simp) ?_
  refine (gstep_sl bg g 5 a 0 0 0 0 0 0 0 _ HX4.out HG.out).mono ?_
  rintro e W5 ⟨rfl, q5, h5⟩
  have H5 := Lib.hid (show Holds W5 (gld bg (g.step ⟨5, a, 0, Ord.zero⟩).1 * _) from h5); have Q5 := Lib.hid ((((Quiet.refl w).alloc _).drew).trans q5)
  clear h5 q5
  refine ⟨_, rfl, MKS.out _ _ _ H5.out, ?_⟩
  try simp only [Act.put, List.setIfInBounds_toArray, List.set_cons_zero, List.set_cons_succ]
  repeat (first | (refine LexL.none (by rfl) ?_; (try simp only [Act.put, List.setIfInBounds_toArray, List.set_cons_zero, List.set_cons_succ])) | (refine LexL.still (v := ?_) (by rfl) ?_ ?_; rotate_left; (focus (intro W hW; (try dsimp only at hW); go_simp; (try (with_reducible rfl)); done)); (try simp only [Act.put, List.setIfInBounds_toArray, List.set_cons_zero, List.set_cons_succ])))
  refine LexL.call (f := 43) (args := #[.pointer (some ⟨b, 0, none⟩), (g.step ⟨5, a, 0, Ord.zero⟩).2.val, .bool false]) (w1 := W5) (by rfl) (by decide) (by go_simp <;> rfl) ?_
  refine (answer_sl b bg told (g.step ⟨5, a, 0, Ord.zero⟩).2 false W5 (H5.out.eq (by ac_rfl : _ = kst b bg told * (lay w0 * (gld bg (g.step ⟨5, a, 0, Ord.zero⟩).1 * (inum (.slice (some ⟨gn, 0, none⟩) 1 cn) [a] * R))))) HA4.out (by omega)).mono ?_
  rintro e W6 ⟨rfl, q6, h6⟩
  have H6 := Lib.hid (h6.eq (by ac_rfl : _ = kst b bg (told ++ line (ansTxt (g.step ⟨5, a, 0, Ord.zero⟩).2 false)) * (gld bg (g.step ⟨5, a, 0, Ord.zero⟩).1 * (inum (.slice (some ⟨gn, 0, none⟩) 1 cn) [a] * (lay w0 * R)))))
  have Q6 := Lib.hid (Q5.out.trans q6)
  refine ⟨_, rfl, MKS.out _ _ (gld bg (g.step ⟨5, a, 0, Ord.zero⟩).1) H6.out.two, ?_⟩
  clear h6 q6
  try simp only [Act.put, List.setIfInBounds_toArray, List.set_cons_zero, List.set_cons_succ]
  refine LexL.done ?_
  go_wp2
  go_ret
  exact ⟨rfl, Q6.out, H6.out⟩
set_option maxHeartbeats 2000000 in
theorem stepno_Open (b : Nat) (v : Value) (l : List Int) (hne : l.length ≠ 1) (w : World) (hv : RowAt w v l.length (ivs l)) {R : HP} (h : Holds w R) :
    Calls Tryz.prog 26 #[.pointer (some ⟨b, 0, none⟩), .string (strOf tOpen), v] w fun e w' => e = .returned (.bool false) ∧ Quiet w w' ∧ Holds w' R := by
  obtain ⟨va, vc, rfl, -, -⟩ := hv.shape
  have HX := Lib.hid (sidx_Open)
  have hne0 : ¬ (l.length : Int) = 1 := by omega
  have hne1 : ((l.length : Int) != 1) = true := by simpa using hne0
  have H0 := Lib.hid (h.alloc (.cells (svls swords).toArray 9))
  clear h hv
  go_enter Tryz.func26, Tryz.ntmps26
  go_wp2_with fail
  refine (index_sl _ swords tOpen _ (swords_row rfl _ rfl _) (by decide) (by decide)).mono ?_
  rw [HX.out]
  rintro e w2 ⟨rfl, rfl⟩
  go_wp2
  go_ret
  exact ⟨rfl, (Quiet.refl w).alloc _, H0.out⟩
set_option maxHeartbeats 2000000 in
theorem stepno_Down (b : Nat) (v : Value) (l : List Int) (hne : l.length ≠ 1) (w : World) (hv : RowAt w v l.length (ivs l)) {R : HP} (h : Holds w R) :
    Calls Tryz.prog 26 #[.pointer (some ⟨b, 0, none⟩), .string (strOf tDown), v] w fun e w' => e = .returned (.bool false) ∧ Quiet w w' ∧ Holds w' R := by
  obtain ⟨va, vc, rfl, -, -⟩ := hv.shape
  have HX := Lib.hid (sidx_Down)
  have hne0 : ¬ (l.length : Int) = 1 := by omega
  have hne1 : ((l.length : Int) != 1) = true := by simpa using hne0
  have H0 := Lib.hid (h.alloc (.cells (svls swords).toArray 9))
  clear h hv
  go_enter Tryz.func26, Tryz.ntmps26
  go_wp2_with fail
  refine (index_sl _ swords tDown _ (swords_row rfl _ rfl _) (by decide) (by decide)).mono ?_
  rw [HX.out]
  rintro e w2 ⟨rfl, rfl⟩
  go_wp2
  go_ret
  exact ⟨rfl, (Quiet.refl w).alloc _, H0.out⟩
set_option maxHeartbeats 2000000 in
theorem stepno_Tick (b : Nat) (v : Value) (l : List Int) (hne : l.length ≠ 1) (w : World) (hv : RowAt w v l.length (ivs l)) {R : HP} (h : Holds w R) :
    Calls Tryz.prog 26 #[.pointer (some ⟨b, 0, none⟩), .string (strOf tTick), v] w fun e w' => e = .returned (.bool false) ∧ Quiet w w' ∧ Holds w' R := by
  obtain ⟨va, vc, rfl, -, -⟩ := hv.shape
  have HX := Lib.hid (sidx_Tick)
  have hne0 : ¬ (l.length : Int) = 1 := by omega
  have hne1 : ((l.length : Int) != 1) = true := by simpa using hne0
  have H0 := Lib.hid (h.alloc (.cells (svls swords).toArray 9))
  clear h hv
  go_enter Tryz.func26, Tryz.ntmps26
  go_wp2_with fail
  refine (index_sl _ swords tTick _ (swords_row rfl _ rfl _) (by decide) (by decide)).mono ?_
  rw [HX.out]
  rintro e w2 ⟨rfl, rfl⟩
  go_wp2
  go_ret
  exact ⟨rfl, (Quiet.refl w).alloc _, H0.out⟩
set_option maxHeartbeats 2000000 in
theorem stepno_none (b : Nat) (v : Value) (l : List Int) (x : List UInt8) (hx : x ∉ swords) (w : World) (hv : RowAt w v l.length (ivs l)) {R : HP} (h : Holds w R) :
    Calls Tryz.prog 26 #[.pointer (some ⟨b, 0, none⟩), .string (strOf x), v] w fun e w' => e = .returned (.bool false) ∧ Quiet w w' ∧ Holds w' R := by
  obtain ⟨va, vc, rfl, -, -⟩ := hv.shape
  have HX := Lib.hid (idx_miss hx)
  have H0 := Lib.hid (h.alloc (.cells (svls swords).toArray 9))
  clear h hv
  go_enter Tryz.func26, Tryz.ntmps26
  go_wp2_with fail
  refine (index_sl _ swords x _ (swords_row rfl _ rfl _) (by decide) (by decide)).mono ?_
  rw [HX.out]
  rintro e w2 ⟨rfl, rfl⟩
  go_wp2
  go_ret
  exact ⟨rfl, (Quiet.refl w).alloc _, H0.out⟩
theorem step_sl (b bg : Nat) (told : List UInt8) (g : Gld) (v : Value) (x : List UInt8) (l : List Int) (s : Stp) (w : World) {w0 : World} {R : HP} (h : Holds w (kst b bg told * (gld bg g * (inum v l * (lay w0 * R))))) (hg : g.Good) (ht : told.length ≤ 300000000) (hq : stepReq x l = some s) :
    Calls Tryz.prog 26 #[.pointer (some ⟨b, 0, none⟩), .string (strOf x), v] w fun e w' => e = .returned (.bool true) ∧ Quiet w w' ∧ Holds w' (kst b bg (told ++ line (ansTxt (g.step s).2 false)) * (gld bg (g.step s).1 * (inum v l * (lay w0 * R)))) := by
  unfold stepReq at hq
  split at hq
  · rename_i a
    split at hq
    · rename_i e; subst e; obtain rfl := Option.some.inj hq; exact step_Open b bg told g v a w h hg ht
    split at hq
    · rename_i e; subst e; obtain rfl := Option.some.inj hq; exact step_Down b bg told g v a w h hg ht
    split at hq
    · rename_i e; subst e; obtain rfl := Option.some.inj hq; exact step_Tick b bg told g v a w h hg ht
    cases hq
  · cases hq
theorem step_no (b : Nat) (v : Value) (x : List UInt8) (l : List Int) (w : World) (hv : RowAt w v l.length (ivs l)) (hx : x ≠ []) (hq : stepReq x l = none) {R : HP} (h : Holds w R) :
    Calls Tryz.prog 26 #[.pointer (some ⟨b, 0, none⟩), .string (strOf x), v] w fun e w' => e = .returned (.bool false) ∧ Quiet w w' ∧ Holds w' R := by
  have one : ∀ {y : List UInt8}, (∀ a, stepReq y [a] ≠ none) → stepReq y l = none → l.length ≠ 1 := fun h0 hq hn => by
    match l, hn with
    | [a], _ => exact h0 a hq
  by_cases e1 : x = tOpen
  · subst e1; exact stepno_Open b v l (one (fun a => by simp [stepReq]) hq) w hv h
  by_cases e2 : x = tDown
  · subst e2; exact stepno_Down b v l (one (fun a => by simp [stepReq, e1]) hq) w hv h
  by_cases e3 : x = tTick
  · subst e3; exact stepno_Tick b v l (one (fun a => by simp [stepReq, e1, e2]) hq) w hv h
  exact stepno_none b v l x (by simp [swords, hx, e1, e2, e3]) w hv h
end Go.Proofs.YtfihmpkkpgmdhaaGreatDoor

/-
  desk.ask: what is nothing; a job.
-/
namespace Go.Proofs.YtfihmpkkpgmdhaaGreatDoor
set_option maxRecDepth 100000
set_option linter.unusedSimpArgs false
set_option linter.unusedVariables false
set_option linter.unnecessarySimpa false
open Go.RowKit
theorem sms_i64 {l : List Int} (h : ∀ n ∈ l, Sm n) : ∀ n ∈ l, I64' n := fun n hn => (h n hn).big
set_option maxHeartbeats 2000000 in
theorem askno_Job (b : Nat) (v : Value) (l : List Int) (hne : l.length ≠ 2) (w : World) (hv : RowAt w v l.length (ivs l)) :
    Calls Tryz.prog 27 #[.pointer (some ⟨b, 0, none⟩), .string (strOf tJob), v] w fun e w' => e = .returned (.bool false) ∧ w' = w := by
  obtain ⟨va, vc, rfl, -, -⟩ := hv.shape
  have hb0 := bytes_yes tJob
  have hb1 := bytes_no (show tJob ≠ tDisk by decide)
  have hb2 := bytes_no (show tJob ≠ tLog by decide)
  have hb3 := bytes_no (show tJob ≠ tHolders by decide)
  have hn0 : ¬ (l.length : Int) = 2 := by omega
  have hn1 : ((l.length : Int) == 2) = false := by simpa using hn0
  obtain ⟨T, hT⟩ : ∃ T, strOf tJob = T := ⟨_, rfl⟩
  rw [hT] at hb0 hb1 hb2 hb3 ⊢
  simp only [tJob, tDisk, tLog, tHolders] at hb0 hb1 hb2 hb3
  clear hT hv
  go_enter Tryz.func27, Tryz.ntmps27
  go_wp2
  go_ret
  exact ⟨rfl, rfl⟩
set_option maxHeartbeats 2000000 in
theorem askno_Disk (b : Nat) (v : Value) (l : List Int) (hne : l.length ≠ 0) (w : World) (hv : RowAt w v l.length (ivs l)) :
    Calls Tryz.prog 27 #[.pointer (some ⟨b, 0, none⟩), .string (strOf tDisk), v] w fun e w' => e = .returned (.bool false) ∧ w' = w := by
  obtain ⟨va, vc, rfl, -, -⟩ := hv.shape
  have hb0 := bytes_no (show tDisk ≠ tJob by decide)
  have hb1 := bytes_yes tDisk
  have hb2 := bytes_no (show tDisk ≠ tLog by decide)
  have hb3 := bytes_no (show tDisk ≠ tHolders by decide)
  have hn0 : ¬ (l.length : Int) = 0 := by omega
  have hn1 : ((l.length : Int) == 0) = false := by simpa using hn0
  obtain ⟨T, hT⟩ : ∃ T, strOf tDisk = T := ⟨_, rfl⟩
  rw [hT] at hb0 hb1 hb2 hb3 ⊢
  simp only [tJob, tDisk, tLog, tHolders] at hb0 hb1 hb2 hb3
  clear hT hv
  go_enter Tryz.func27, Tryz.ntmps27
  go_wp2
  go_ret
  exact ⟨rfl, rfl⟩
set_option maxHeartbeats 2000000 in
theorem askno_Log (b : Nat) (v : Value) (l : List Int) (hne : l.length ≠ 0) (w : World) (hv : RowAt w v l.length (ivs l)) :
    Calls Tryz.prog 27 #[.pointer (some ⟨b, 0, none⟩), .string (strOf tLog), v] w fun e w' => e = .returned (.bool false) ∧ w' = w := by
  obtain ⟨va, vc, rfl, -, -⟩ := hv.shape
  have hb0 := bytes_no (show tLog ≠ tJob by decide)
  have hb1 := bytes_no (show tLog ≠ tDisk by decide)
  have hb2 := bytes_yes tLog
  have hb3 := bytes_no (show tLog ≠ tHolders by decide)
  have hn0 : ¬ (l.length : Int) = 0 := by omega
  have hn1 : ((l.length : Int) == 0) = false := by simpa using hn0
  obtain ⟨T, hT⟩ : ∃ T, strOf tLog = T := ⟨_, rfl⟩
  rw [hT] at hb0 hb1 hb2 hb3 ⊢
  simp only [tJob, tDisk, tLog, tHolders] at hb0 hb1 hb2 hb3
  clear hT hv
  go_enter Tryz.func27, Tryz.ntmps27
  go_wp2
  go_ret
  exact ⟨rfl, rfl⟩
set_option maxHeartbeats 2000000 in
theorem askno_Holders (b : Nat) (v : Value) (l : List Int) (hne : l.length ≠ 1) (w : World) (hv : RowAt w v l.length (ivs l)) :
    Calls Tryz.prog 27 #[.pointer (some ⟨b, 0, none⟩), .string (strOf tHolders), v] w fun e w' => e = .returned (.bool false) ∧ w' = w := by
  obtain ⟨va, vc, rfl, -, -⟩ := hv.shape
  have hb0 := bytes_no (show tHolders ≠ tJob by decide)
  have hb1 := bytes_no (show tHolders ≠ tDisk by decide)
  have hb2 := bytes_no (show tHolders ≠ tLog by decide)
  have hb3 := bytes_yes tHolders
  have hn0 : ¬ (l.length : Int) = 1 := by omega
  have hn1 : ((l.length : Int) == 1) = false := by simpa using hn0
  obtain ⟨T, hT⟩ : ∃ T, strOf tHolders = T := ⟨_, rfl⟩
  rw [hT] at hb0 hb1 hb2 hb3 ⊢
  simp only [tJob, tDisk, tLog, tHolders] at hb0 hb1 hb2 hb3
  clear hT hv
  go_enter Tryz.func27, Tryz.ntmps27
  go_wp2
  go_ret
  exact ⟨rfl, rfl⟩
set_option maxHeartbeats 2000000 in
theorem askno_none (b : Nat) (v : Value) (l : List Int) (x : List UInt8) (h0 : x ≠ tJob) (h1 : x ≠ tDisk) (h2 : x ≠ tLog) (h3 : x ≠ tHolders) (w : World) (hv : RowAt w v l.length (ivs l)) :
    Calls Tryz.prog 27 #[.pointer (some ⟨b, 0, none⟩), .string (strOf x), v] w fun e w' => e = .returned (.bool false) ∧ w' = w := by
  obtain ⟨va, vc, rfl, -, -⟩ := hv.shape
  have hb0 := bytes_no h0
  have hb1 := bytes_no h1
  have hb2 := bytes_no h2
  have hb3 := bytes_no h3
  obtain ⟨T, hT⟩ : ∃ T, strOf x = T := ⟨_, rfl⟩
  rw [hT] at hb0 hb1 hb2 hb3 ⊢
  simp only [tJob, tDisk, tLog, tHolders] at hb0 hb1 hb2 hb3
  clear hT hv
  go_enter Tryz.func27, Tryz.ntmps27
  go_wp2
  go_ret
  exact ⟨rfl, rfl⟩
theorem ask_no (b : Nat) (v : Value) (x : List UInt8) (l : List Int) (w : World) (hv : RowAt w v l.length (ivs l)) (hq : askReq x l = .what) {R : HP} (h : Holds w R) :
    Calls Tryz.prog 27 #[.pointer (some ⟨b, 0, none⟩), .string (strOf x), v] w fun e w' => e = .returned (.bool false) ∧ Quiet w w' ∧ Holds w' R := by
  have fin : (Calls Tryz.prog 27 #[.pointer (some ⟨b, 0, none⟩), .string (strOf x), v] w fun e w' => e = .returned (.bool false) ∧ w' = w) → Calls Tryz.prog 27 #[.pointer (some ⟨b, 0, none⟩), .string (strOf x), v] w fun e w' => e = .returned (.bool false) ∧ Quiet w w' ∧ Holds w' R :=
    fun hc => hc.mono fun e w' ⟨he, hw⟩ => ⟨he, hw ▸ Quiet.refl _, hw ▸ h⟩
  refine fin ?_
  by_cases e1 : x = tJob
  · subst e1
    refine askno_Job b v l (fun hn => ?_) w hv
    match l, hn with
    | [a, c], _ => simp [askReq] at hq
  by_cases e2 : x = tDisk
  · subst e2
    refine askno_Disk b v l (fun hn => ?_) w hv
    obtain rfl := List.length_eq_zero_iff.1 hn
    simp [askReq] at hq
  by_cases e3 : x = tLog
  · subst e3
    refine askno_Log b v l (fun hn => ?_) w hv
    obtain rfl := List.length_eq_zero_iff.1 hn
    simp [askReq, e2] at hq
  by_cases e4 : x = tHolders
  · subst e4
    refine askno_Holders b v l (fun hn => ?_) w hv
    match l, hn with
    | [a], _ => simp [askReq] at hq
  exact askno_none b v l x e1 e2 e3 e4 w hv
theorem gat_none {w : World} {A R : HP} {bd : Nat} {vs : Nat → Value} {f : Nat → Option Nod} {n : Int} (h : Holds w (nodes3 bd vs f * (A * R))) (hf : (if n < 0 ∨ 3 ≤ n then none else f n.toNat) = none) : gAt vs n = .pointer none := by
  unfold gAt
  split at hf
  · rename_i hn; rw [if_pos hn]
  · rename_i hn
    rw [if_neg hn]
    exact pick_none (A := HP.emp) (B := HP.emp) (emp_mul (emp_mul h)) (by omega) hf
theorem gat_some {w : World} {A R : HP} {bd : Nat} {vs : Nat → Value} {f : Nat → Option Nod} {n : Int} {nd : Nod} (h : Holds w (nodes3 bd vs f * (A * R))) (hf : (if n < 0 ∨ 3 ≤ n then none else f n.toNat) = some nd) : n.toNat < 3 ∧ f n.toNat = some nd ∧ ∃ bn : Nat, gAt vs n = .pointer (some ⟨bn, 0, none⟩) ∧ vs n.toNat = .pointer (some ⟨bn, 0, none⟩) := by
  unfold gAt
  split at hf
  · cases hf
  · rename_i hn
    rw [if_neg hn]
    obtain ⟨bn, e, _⟩ := pick_some (A := HP.emp) (B := HP.emp) (emp_mul (emp_mul h)) (show n.toNat < 3 by omega) hf
    exact ⟨by omega, hf, bn, e, e⟩
set_option maxHeartbeats 8000000 in
theorem ask_job_none (b bg bd : Nat) (vs : Nat → Value) (told : List UInt8) (d : Dsk) (f : Nat → Option Nod) (now : Int) (v : Value) (n j : Int) (w : World) {w0 : World} {R : HP}
    (h : Holds w (kst b bg told * (gblk bg bd vs now * (dsk bd d * (nodes3 bd vs f * (inum v [n, j] * (lay w0 * R))))))) (hf : (if n < 0 ∨ 3 ≤ n then none else f n.toNat) = none) (ht : told.length ≤ 300000000) :
    Calls Tryz.prog 27 #[.pointer (some ⟨b, 0, none⟩), .string (strOf tJob), v] w fun e w' => e = .returned (.bool true) ∧ Quiet w w' ∧ Holds w' (kst b bg (told ++ line (tNo ++ nums [5])) * (gblk bg bd vs now * (dsk bd d * (nodes3 bd vs f * (inum v [n, j] * (lay w0 * R)))))) := by
  obtain ⟨gn, cn, rfl, d1, d2⟩ := inum_cons (h.eq (by ac_rfl : _ = inum v [n, j] * (kst b bg told * (gblk bg bd vs now * (dsk bd d * (nodes3 bd vs f * (lay w0 * R)))))))
  simp only [List.length_cons, List.length_nil, Nat.zero_add] at d1 h ⊢
  have HN := Lib.hid (gat_none h.four hf)
  clear hf
  have hbJ := bytes_yes tJob
  obtain ⟨T, hT⟩ : ∃ T, strOf tJob = T := ⟨_, rfl⟩
  rw [hT] at hbJ ⊢
  simp only [tJob] at hbJ
  have HT := Lib.hid hT
  have H0 := Lib.hid (h.eq (by ac_rfl : _ = gblk bg bd vs now * (kst b bg told * (inum (.slice (some ⟨gn, 0, none⟩) 2 cn) [n, j] * (dsk bd d * (nodes3 bd vs f * (lay w0 * R)))))))
  clear h hT
  have mkS : ∀ (W : World) (td : List UInt8) (A B : HP), Holds W (A * (kst b bg td * (inum (.slice (some ⟨gn, 0, none⟩) 2 cn) [n, j] * B))) → W.cell? ⟨b, 2, none⟩ = some (.pointer (some ⟨bg, 0, none⟩)) ∧ W.cell? ⟨gn, 0, none⟩ = some (.int .i64 n) ∧ W.cell? ⟨gn, 1, none⟩ = some (.int .i64 j) := fun W td A B h => ⟨kst_bg h.two, inum_cell h.three 0 _ rfl, inum_cell h.three 1 _ rfl⟩
  have MKS := Lib.hid mkS
  clear mkS
  go_enter Tryz.func27, Tryz.ntmps27
  go_wp2_with fail
  refine wp_region_lex (fun W => W.cell? ⟨b, 2, none⟩ = some (.pointer (some ⟨bg, 0, none⟩)) ∧ W.cell? ⟨gn, 0, none⟩ = some (.int .i64 n) ∧ W.cell? ⟨gn, 1, none⟩ = some (.int .i64 j)) [7] (by kernel_rfl) (by kernel_rfl) (MKS.out _ _ _ _ H0.out.drew) ?_
  repeat (first | (refine LexL.none (by rfl) ?_; (try simp only [Act.put, List.setIfInBounds_toArray, List.set_cons_zero, List.set_cons_succ])) | (refine LexL.still (v := ?_) (by rfl) ?_ ?_; rotate_left; (focus (intro W hW; (try dsimp only at hW); go_simp; (try (with_reducible rfl)); done)); (try simp only [Act.put, List.setIfInBounds_toArray, List.set_cons_zero, List.set_cons_succ])))
  refine LexL.call (f := 47) (args := #[.pointer (some ⟨bg, 0, none⟩), .int .i64 n]) (w1 := w.drew) (by rfl) (by decide) (by go_simp) ?_
  refine (gNode_sl bg bd vs now n _ H0.out.drew).mono ?_
  rintro e w1 ⟨rfl, rfl⟩
  rw [HN.out]
  refine ⟨_, rfl, MKS.out _ _ _ _ H0.out.drew, ?_⟩
  try simp only [Act.put, List.setIfInBounds_toArray, List.set_cons_zero, List.set_cons_succ]
  repeat (first | (refine LexL.none (by rfl) ?_; (try simp only [Act.put, List.setIfInBounds_toArray, List.set_cons_zero, List.set_cons_succ])) | (refine LexL.still (v := ?_) (by rfl) ?_ ?_; rotate_left; (focus (intro W hW; (try dsimp only at hW); go_simp; (try (with_reducible rfl)); done)); (try simp only [Act.put, List.setIfInBounds_toArray, List.set_cons_zero, List.set_cons_succ])))
  refine LexL.done ?_
  go_wp2_with fail
  refine (num_sl 5 _ (lay_laid (H0.out.drew.eq (by ac_rfl : _ = lay w0 * (gblk bg bd vs now * (kst b bg told * (inum (.slice (some ⟨gn, 0, none⟩) 2 cn) [n, j] * (dsk bd d * (nodes3 bd vs f * R)))))))) (by unfold I64'; omega)).mono ?_
  rintro e w2 ⟨rfl, hb2⟩
  have H2 := Lib.hid (H0.out.drew.below hb2); have B2 := Lib.hid hb2; clear hb2
  have hl5 := Lib.itoa_length_le 5 (by decide) (by decide)
  obtain ⟨N, hN⟩ : ∃ N, Lib.itoa 5 = N := ⟨_, rfl⟩
  rw [hN] at hl5 ⊢
  have HNN := Lib.hid hN; clear hN
  go_wp2_with (go_at_call 28; refine (say_sl b bg told _ [tNo, N] _ (H2.out.alloc _).two (svls_row (by simp) (by simp) _ rfl _) (by simp) (by simp) (by omega) (by rw [join_two]; simp [tNo]; omega)).mono ?_; rintro e w3 ⟨rfl, q3, h3⟩)
  rw [join_two, ← HNN.out, show (32 :: Lib.itoa 5 : List UInt8) = nums [5] by simp [nums]] at h3
  go_ret
  exact ⟨rfl, (((Quiet.refl w).drew.trans (Quiet.below B2.out)).alloc _).trans q3, h3.eq (by ac_rfl)⟩

set_option maxHeartbeats 8000000 in
theorem ask_job_some (b bg bd : Nat) (vs : Nat → Value) (told : List UInt8) (d : Dsk) (f : Nat → Option Nod) (now : Int) (v : Value) (n j : Int) (nd : Nod) (w : World) {w0 : World} {R : HP}
    (h : Holds w (kst b bg told * (gblk bg bd vs now * (dsk bd d * (nodes3 bd vs f * (inum v [n, j] * (lay w0 * R))))))) (hf : (if n < 0 ∨ 3 ≤ n then none else f n.toNat) = some nd) (hk : nd.t.Ok) (ht : told.length ≤ 300000000) :
    Calls Tryz.prog 27 #[.pointer (some ⟨b, 0, none⟩), .string (strOf tJob), v] w fun e w' => e = .returned (.bool true) ∧ Quiet w w' ∧ Holds w' (kst b bg (told ++ line (tJob ++ jobTxt (nd.t.job j))) * (gblk bg bd vs now * (dsk bd d * (nodes3 bd vs f * (inum v [n, j] * (lay w0 * R)))))) := by
  obtain ⟨gn, cn, rfl, d1, d2⟩ := inum_cons (h.eq (by ac_rfl : _ = inum v [n, j] * (kst b bg told * (gblk bg bd vs now * (dsk bd d * (nodes3 bd vs f * (lay w0 * R)))))))
  simp only [List.length_cons, List.length_nil, Nat.zero_add] at d1 h ⊢
  obtain ⟨hi, hfi, bn, hgn, hvn⟩ := gat_some h.four hf
  have HN := Lib.hid hgn; have HFI := Lib.hid hfi; have HVN := Lib.hid hvn; have HJS := Lib.hid (job_small hk j)
  have HJL := Lib.hid (nums_len (job_small hk j))
  clear hf hgn hfi hvn hk
  have hbJ := bytes_yes tJob
  obtain ⟨T, hT⟩ : ∃ T, strOf tJob = T := ⟨_, rfl⟩
  rw [hT] at hbJ ⊢
  simp only [tJob] at hbJ
  have HT := Lib.hid hT
  have H0 := Lib.hid (h.eq (by ac_rfl : _ = gblk bg bd vs now * (kst b bg told * (inum (.slice (some ⟨gn, 0, none⟩) 2 cn) [n, j] * (dsk bd d * (nodes3 bd vs f * (lay w0 * R)))))))
  clear h hT
  have mkS : ∀ (W : World) (td : List UInt8) (A B : HP), Holds W (A * (kst b bg td * (inum (.slice (some ⟨gn, 0, none⟩) 2 cn) [n, j] * B))) → W.cell? ⟨b, 2, none⟩ = some (.pointer (some ⟨bg, 0, none⟩)) ∧ W.cell? ⟨gn, 0, none⟩ = some (.int .i64 n) ∧ W.cell? ⟨gn, 1, none⟩ = some (.int .i64 j) := fun W td A B h => ⟨kst_bg h.two, inum_cell h.three 0 _ rfl, inum_cell h.three 1 _ rfl⟩
  have MKS := Lib.hid mkS
  clear mkS
  go_enter Tryz.func27, Tryz.ntmps27
  go_wp2_with fail
  refine wp_region_lex (fun W => W.cell? ⟨b, 2, none⟩ = some (.pointer (some ⟨bg, 0, none⟩)) ∧ W.cell? ⟨gn, 0, none⟩ = some (.int .i64 n) ∧ W.cell? ⟨gn, 1, none⟩ = some (.int .i64 j)) [7] (by kernel_rfl) (by kernel_rfl) (MKS.out _ _ _ _ H0.out.drew) ?_
  repeat (first | (refine LexL.none (by rfl) ?_; (try simp only [Act.put, List.setIfInBounds_toArray, List.set_cons_zero, List.set_cons_succ])) | (refine LexL.still (v := ?_) (by rfl) ?_ ?_; rotate_left; (focus (intro W hW; (try dsimp only at hW); go_simp; (try (with_reducible rfl)); done)); (try simp only [Act.put, List.setIfInBounds_toArray, List.set_cons_zero, List.set_cons_succ])))
  refine LexL.call (f := 47) (args := #[.pointer (some ⟨bg, 0, none⟩), .int .i64 n]) (w1 := w.drew) (by rfl) (by decide) (by go_simp) ?_
  refine (gNode_sl bg bd vs now n _ H0.out.drew).mono ?_
  rintro e w1 ⟨rfl, rfl⟩
  rw [HN.out]
  refine ⟨_, rfl, MKS.out _ _ _ _ H0.out.drew, ?_⟩
  try simp only [Act.put, List.setIfInBounds_toArray, List.set_cons_zero, List.set_cons_succ]
  repeat (first | (refine LexL.none (by rfl) ?_; (try simp only [Act.put, List.setIfInBounds_toArray, List.set_cons_zero, List.set_cons_succ])) | (refine LexL.still (v := ?_) (by rfl) ?_ ?_; rotate_left; (focus (intro W hW; (try dsimp only at hW); go_simp; (try (with_reducible rfl)); done)); (try simp only [Act.put, List.setIfInBounds_toArray, List.set_cons_zero, List.set_cons_succ])))
  refine LexL.done ?_
  go_wp2_with fail
  have hp := H0.out.drew.eq (by rw [nodes3_pick bd vs f hi, HFI.out, HVN.out]; ac_rfl : _ = onod (.pointer (some ⟨bn, 0, none⟩)) bd (some nd) * (kst b bg told * (inum (.slice (some ⟨gn, 0, none⟩) 2 cn) [n, j] * (gblk bg bd vs now * (dsk bd d * (nrest bd vs f n.toNat * (lay w0 * R)))))))
  obtain ⟨bn', e, hp⟩ := onod_some hp
  simp only [Value.pointer.injEq, Option.some.injEq, Addr.mk.injEq, and_true] at e
  subst e
  obtain ⟨bt, hp⟩ := nod_open hp
  have HP1 := Lib.hid (hp.eq (by ac_rfl : _ = tab bt nd.t * (nblk bn bt bd nd * (inum (.slice (some ⟨gn, 0, none⟩) 2 cn) [n, j] * (kst b bg told * (gblk bg bd vs now * (dsk bd d * (nrest bd vs f n.toNat * (lay w0 * R)))))))))
  have mkT : ∀ (W : World) (A B : HP), Holds W (A * (nblk bn bt bd nd * (inum (.slice (some ⟨gn, 0, none⟩) 2 cn) [n, j] * B))) → W.cell? ⟨bn, 0, none⟩ = some (.pointer (some ⟨bt, 0, none⟩)) ∧ W.cell? ⟨gn, 1, none⟩ = some (.int .i64 j) := fun W A B h => ⟨(show Holds W (bl bn 119 [.pointer (some ⟨bt, 0, none⟩), .pointer (some ⟨bd, 0, none⟩), .int .i64 nd.ep, .bool nd.down] * _) from h.two).bl.cell 0 _ rfl, inum_cell h.three 1 _ rfl⟩
  have MKT := Lib.hid mkT
  clear hp mkT
  obtain ⟨wj, hwj⟩ : ∃ wj, w.drew = wj := ⟨_, rfl⟩
  have QJ := Lib.hid (show Quiet w wj from hwj ▸ (Quiet.refl w).drew)
  rw [hwj] at HP1 ⊢
  clear hwj
  have hpd := HP1.out.drew
  have HPD := Lib.hid hpd; clear hpd
  refine wp_region_lex (fun W => W.cell? ⟨bn, 0, none⟩ = some (.pointer (some ⟨bt, 0, none⟩)) ∧ W.cell? ⟨gn, 1, none⟩ = some (.int .i64 j)) [8, 9, 10, 11, 12] (by kernel_rfl) (by kernel_rfl) (MKT.out _ _ _ HPD.out) ?_
  repeat (first | (refine LexL.none (by rfl) ?_; (try simp only [Act.put, List.setIfInBounds_toArray, List.set_cons_zero, List.set_cons_succ])) | (refine LexL.still (v := ?_) (by rfl) ?_ ?_; rotate_left; (focus (intro W hW; (try dsimp only at hW); go_simp; (try (with_reducible rfl)); done)); (try simp only [Act.put, List.setIfInBounds_toArray, List.set_cons_zero, List.set_cons_succ])))
  refine LexL.call (f := 49) (args := #[.pointer (some ⟨bt, 0, none⟩), .int .i64 j]) (w1 := wj.drew) (by rfl) (by decide) (by go_simp) ?_
  refine (job_sl bt nd.t j _ HPD.out).mono ?_
  rintro e w2 ⟨rfl, hb2⟩
  have H2 := Lib.hid (HPD.out.below hb2); have Q2 := Lib.hid ((QJ.out.drew).trans (Quiet.below hb2)); clear hb2
  refine ⟨_, rfl, MKT.out _ _ _ H2.out, ?_⟩
  try simp only [Act.put, List.setIfInBounds_toArray, List.set_cons_zero, List.set_cons_succ]
  refine LexL.call (f := 48) (args := #[(nd.t.job j).val]) (w1 := w2) (by rfl) (by decide) (by go_simp) ?_
  refine (kjob_sl (nd.t.job j) _ (lay_laid (H2.out.eq (by ac_rfl : _ = lay w0 * (tab bt nd.t * (nblk bn bt bd nd * (inum (.slice (some ⟨gn, 0, none⟩) 2 cn) [n, j] * (kst b bg told * (gblk bg bd vs now * (dsk bd d * (nrest bd vs f n.toNat * R))))))))) ) (sms_i64 HJS.out)).mono ?_
  rintro e w3 ⟨rfl, hb3⟩
  have H3 := Lib.hid (H2.out.below hb3); have Q3 := Lib.hid (Q2.out.trans (Quiet.below hb3)); clear hb3
  refine ⟨_, rfl, MKT.out _ _ _ H3.out, ?_⟩
  try simp only [Act.put, List.setIfInBounds_toArray, List.set_cons_zero, List.set_cons_succ]
  obtain ⟨N, hN⟩ : ∃ N, jobTxt (nd.t.job j) = N := ⟨_, rfl⟩
  have hl : N.length ≤ 88 := by rw [← hN]; exact HJL.out
  rw [hN]
  have HNN := Lib.hid hN; clear hN
  refine LexL.still (v := .string (strOf (tJob ++ N))) (by rfl) (fun W _ => exec_add_str (l := tJob) (m := N) (.const (.string ⟨#[106, 111, 98]⟩)) (.tmp 45) rfl rfl rfl (by simp [tJob]; omega)) ?_
  try simp only [Act.put, List.setIfInBounds_toArray, List.set_cons_zero, List.set_cons_succ]
  refine LexL.value (w1 := w3.alloc (.cells (svls [tJob ++ N]).toArray 9)) (v := .slice (some ⟨w3.heap.size, 0, none⟩) 1 1) (by rfl) (by decide) (by go_simp; rfl) (MKT.out _ _ _ (H3.out.alloc _)) ?_
  try simp only [Act.put, List.setIfInBounds_toArray, List.set_cons_zero, List.set_cons_succ]
  refine LexL.call (f := 28) (args := #[.pointer (some ⟨b, 0, none⟩), .slice (some ⟨w3.heap.size, 0, none⟩) 1 1]) (w1 := w3.alloc (.cells (svls [tJob ++ N]).toArray 9)) (by rfl) (by decide) (by go_simp) ?_
  refine (say_sl b bg told _ [tJob ++ N] _ (H3.out.alloc (.cells (svls [tJob ++ N]).toArray 9)).four (svls_row rfl (by simp) _ rfl _) (by simp) (by simp) (by omega) (by rw [join_one']; simp [tJob]; omega)).mono ?_
  rintro e w4 ⟨rfl, q4, h4⟩
  rw [join_one', ← HNN.out] at h4
  have H4 := Lib.hid h4
  have Q4 := Lib.hid ((Q3.out.alloc (.cells (svls [tJob ++ N]).toArray 9)).trans q4)
  clear h4 q4
  refine ⟨_, rfl, MKT.out _ _ _ (H4.out.eq (by ac_rfl : _ = (kst b bg (told ++ line (tJob ++ jobTxt (nd.t.job j))) * tab bt nd.t) * (nblk bn bt bd nd * (inum (.slice (some ⟨gn, 0, none⟩) 2 cn) [n, j] * (gblk bg bd vs now * (dsk bd d * (nrest bd vs f n.toNat * (lay w0 * R)))))))), ?_⟩
  try simp only [Act.put, List.setIfInBounds_toArray, List.set_cons_zero, List.set_cons_succ]
  refine LexL.done ?_
  go_wp2
  go_ret
  refine ⟨rfl, Q4.out, ?_⟩
  have hz := onod_mk (nod_close (H4.out.eq (by ac_rfl : _ = nblk bn bt bd nd * (tab bt nd.t * (kst b bg (told ++ line (tJob ++ jobTxt (nd.t.job j))) * (inum (.slice (some ⟨gn, 0, none⟩) 2 cn) [n, j] * (gblk bg bd vs now * (dsk bd d * (nrest bd vs f n.toNat * (lay w0 * R))))))))))
  rw [nodes3_pick bd vs f hi, HFI.out, HVN.out]
  exact hz.eq (by ac_rfl)

end Go.Proofs.YtfihmpkkpgmdhaaGreatDoor

/-
  desk.ask: disk; what is nothing.
-/
namespace Go.Proofs.YtfihmpkkpgmdhaaGreatDoor
set_option maxRecDepth 100000
set_option linter.unusedSimpArgs false
set_option linter.unusedVariables false
set_option linter.unnecessarySimpa false
open Go.RowKit
theorem inum_nil {w : World} {v : Value} {A : HP} (h : Holds w (inum v [] * A)) : ∃ a c, v = .slice a 0 c ∧ c ≤ 9223372036854775807 := by
  obtain ⟨a, c, e, h1, h2⟩ := h.row.shape
  exact ⟨a, c, e, h2⟩
set_option maxHeartbeats 8000000 in
theorem ask_disk (b bg bd : Nat) (vs : Nat → Value) (told : List UInt8) (d : Dsk) (now : Int) (v : Value) (w : World) {w0 : World} {RN R : HP}
    (h : Holds w (kst b bg told * (gblk bg bd vs now * (dsk bd d * (RN * (inum v [] * (lay w0 * R))))))) (hd : d.Ok) (hn : Sm now) (ht : told.length ≤ 300000000) :
    Calls Tryz.prog 27 #[.pointer (some ⟨b, 0, none⟩), .string (strOf tDisk), v] w fun e w' => e = .returned (.bool true) ∧ Quiet w w' ∧ Holds w' (kst b bg (told ++ line (tDisk ++ nums [d.ep, d.b.length, now])) * (gblk bg bd vs now * (dsk bd d * (RN * (inum v [] * (lay w0 * R)))))) := by
  obtain ⟨va, vc, rfl, d1⟩ := inum_nil (h.eq (by ac_rfl : _ = inum v [] * (kst b bg told * (gblk bg bd vs now * (dsk bd d * (RN * (lay w0 * R)))))))
  have hsm : ∀ n ∈ [d.ep, (d.b.length : Int), now], Sm n := fun n hn' => by
    have h1 := hd.ep; have h2 := hd.b
    simp only [List.mem_cons, List.mem_nil_iff, or_false] at hn'
    unfold Sm
    unfold Sm at hn
    rcases hn' with rfl | rfl | rfl <;> omega
  have HS := Lib.hid hsm; have HD := Lib.hid hd
  have HL := Lib.hid (nums_len hsm)
  have hbJ := bytes_no (show tDisk ≠ tJob by decide); have hbD := bytes_yes tDisk
  obtain ⟨T, hT⟩ : ∃ T, strOf tDisk = T := ⟨_, rfl⟩
  rw [hT] at hbJ hbD ⊢
  simp only [tJob, tDisk] at hbJ hbD
  have H0 := Lib.hid h; have HT := Lib.hid hT
  clear h hd hn hsm hT
  go_enter Tryz.func27, Tryz.ntmps27
  go_wp2_with fail
  have mkS : ∀ (W : World) (td : List UInt8) (A B : HP), Holds W (A * (kst b bg td * (gblk bg bd vs now * B))) → W.cell? ⟨b, 2, none⟩ = some (.pointer (some ⟨bg, 0, none⟩)) ∧ W.cell? ⟨bg, 0, none⟩ = some (.pointer (some ⟨bd, 0, none⟩)) := fun W td A B h => ⟨kst_bg h.two, (show Holds W (bl bg 65 (gcells bd vs now) * _) from h.three).bl.cell 0 _ rfl⟩
  have hx1 : Holds w.drew (dsk bd d * (kst b bg told * (gblk bg bd vs now * (RN * (inum (.slice va 0 vc) [] * (lay w0 * R)))))) := H0.out.drew.three
  have HX1 := Lib.hid hx1; have MKS := Lib.hid mkS
  clear hx1 mkS
  refine wp_region_lex (fun W => W.cell? ⟨b, 2, none⟩ = some (.pointer (some ⟨bg, 0, none⟩)) ∧ W.cell? ⟨bg, 0, none⟩ = some (.pointer (some ⟨bd, 0, none⟩))) [8, 16, 22, 23, 24, 25, 26, 27] (by kernel_rfl) (by kernel_rfl) (MKS.out _ _ _ _ HX1.out) ?_
  repeat (first | (refine LexL.none (by rfl) ?_; (try simp only [Act.put, List.setIfInBounds_toArray, List.set_cons_zero, List.set_cons_succ])) | (refine LexL.still (v := ?_) (by rfl) ?_ ?_; rotate_left; (focus (intro W hW; (try dsimp only at hW); go_simp; (try (with_reducible rfl)); done)); (try simp only [Act.put, List.setIfInBounds_toArray, List.set_cons_zero, List.set_cons_succ])))
  refine LexL.call (f := 51) (args := #[.pointer (some ⟨bd, 0, none⟩)]) (w1 := w.drew) (by rfl) (by decide) (by go_simp) ?_
  refine (depoch_sl bd d _ HX1.out).mono ?_
  rintro e w1 ⟨rfl, rfl⟩
  refine ⟨_, rfl, MKS.out _ _ _ _ HX1.out, ?_⟩
  try simp only [Act.put, List.setIfInBounds_toArray, List.set_cons_zero, List.set_cons_succ]
  repeat (first | (refine LexL.none (by rfl) ?_; (try simp only [Act.put, List.setIfInBounds_toArray, List.set_cons_zero, List.set_cons_succ])) | (refine LexL.still (v := ?_) (by rfl) ?_ ?_; rotate_left; (focus (intro W hW; (try dsimp only at hW); go_simp; (try (with_reducible rfl)); done)); (try simp only [Act.put, List.setIfInBounds_toArray, List.set_cons_zero, List.set_cons_succ])))
  refine LexL.call (f := 52) (args := #[.pointer (some ⟨bd, 0, none⟩)]) (w1 := w.drew) (by rfl) (by decide) (by go_simp) ?_
  refine (bytes_sl bd d _ HX1.out HD.out).mono ?_
  rintro e w2 ⟨vb, rfl, q2, h2⟩
  obtain ⟨ba, bc, rfl, -, -⟩ := h2.ownb.bytes.shape
  replace h2 : Holds w2 (ownb (.slice ba d.b.length bc) d.b * (dsk bd d * (kst b bg told * (gblk bg bd vs now * (RN * (inum (.slice va 0 vc) [] * (lay w0 * R))))))) := h2
  have H2 := Lib.hid (h2.eq (by ac_rfl : _ = ownb (.slice ba d.b.length bc) d.b * (kst b bg told * (gblk bg bd vs now * (dsk bd d * (RN * (inum (.slice va 0 vc) [] * (lay w0 * R))))))))
  have Q2 := Lib.hid ((Quiet.refl w).drew.trans q2)
  have hla2 := lay_laid (h2.eq (by ac_rfl : _ = lay w0 * (ownb (.slice ba d.b.length bc) d.b * (kst b bg told * (gblk bg bd vs now * (dsk bd d * (RN * (inum (.slice va 0 vc) [] * R)))))))) 
  have HLA2 := Lib.hid hla2
  clear h2 q2 hla2
  refine ⟨_, rfl, MKS.out _ _ _ _ H2.out, ?_⟩
  try simp only [Act.put, List.setIfInBounds_toArray, List.set_cons_zero, List.set_cons_succ]
  repeat (first | (refine LexL.none (by rfl) ?_; (try simp only [Act.put, List.setIfInBounds_toArray, List.set_cons_zero, List.set_cons_succ])) | (refine LexL.still (v := ?_) (by rfl) ?_ ?_; rotate_left; (focus (intro W hW; (try dsimp only at hW); go_simp; (try (with_reducible rfl)); done)); (try simp only [Act.put, List.setIfInBounds_toArray, List.set_cons_zero, List.set_cons_succ])))
  refine LexL.call (f := 53) (args := #[.pointer (some ⟨bg, 0, none⟩)]) (w1 := w2) (by rfl) (by decide) (by go_simp) ?_
  refine (gNow_sl bg bd vs now _ H2.out.three).mono ?_
  rintro e w3 ⟨rfl, rfl⟩
  refine ⟨_, rfl, MKS.out _ _ _ _ H2.out, ?_⟩
  try simp only [Act.put, List.setIfInBounds_toArray, List.set_cons_zero, List.set_cons_succ]
  repeat (first | (refine LexL.none (by rfl) ?_; (try simp only [Act.put, List.setIfInBounds_toArray, List.set_cons_zero, List.set_cons_succ])) | (refine LexL.still (v := ?_) (by rfl) ?_ ?_; rotate_left; (focus (intro W hW; (try dsimp only at hW); go_simp; (try (with_reducible rfl)); done)); (try simp only [Act.put, List.setIfInBounds_toArray, List.set_cons_zero, List.set_cons_succ])))
  refine LexL.value (w1 := w2.alloc (.cells (ivs [d.ep, (d.b.length : Int), now]).toArray 3)) (v := .slice (some ⟨w2.heap.size, 0, none⟩) 3 3) (by rfl) (by decide) (by go_simp; rfl) (MKS.out _ _ _ _ (H2.out.alloc _)) ?_
  try simp only [Act.put, List.setIfInBounds_toArray, List.set_cons_zero, List.set_cons_succ]
  refine LexL.call (f := 50) (args := #[.slice (some ⟨w2.heap.size, 0, none⟩) 3 3]) (w1 := w2.alloc (.cells (ivs [d.ep, (d.b.length : Int), now]).toArray 3)) (by rfl) (by decide) (by go_simp) ?_
  refine (nums_sl _ [d.ep, (d.b.length : Int), now] _ (HLA2.out.alloc _) (ivs_row rfl (by simp) _ rfl _) (by simp) (sms_i64 HS.out)).mono ?_
  rintro e w4 ⟨rfl, hb4⟩
  have H4 := Lib.hid ((H2.out.alloc (.cells (ivs [d.ep, (d.b.length : Int), now]).toArray 3)).below hb4)
  have Q4 := Lib.hid ((Q2.out.alloc (.cells (ivs [d.ep, (d.b.length : Int), now]).toArray 3)).trans (Quiet.below hb4))
  clear hb4
  refine ⟨_, rfl, MKS.out _ _ _ _ H4.out, ?_⟩
  try simp only [Act.put, List.setIfInBounds_toArray, List.set_cons_zero, List.set_cons_succ]
  obtain ⟨N, hN⟩ : ∃ N, nums [d.ep, (d.b.length : Int), now] = N := ⟨_, rfl⟩
  have hl := HL.out
  rw [hN] at hl ⊢
  have HN := Lib.hid hN
  simp only [List.length_cons, List.length_nil] at hl
  clear hN
  refine LexL.still (v := .string (strOf (tDisk ++ N))) (by rfl) (fun W _ => exec_add_str (l := tDisk) (m := N) (.const (.string ⟨#[100, 105, 115, 107]⟩)) (.tmp 81) rfl rfl rfl (by simp [tDisk]; omega)) ?_
  try simp only [Act.put, List.setIfInBounds_toArray, List.set_cons_zero, List.set_cons_succ]
  refine LexL.value (w1 := w4.alloc (.cells (svls [tDisk ++ N]).toArray 9)) (v := .slice (some ⟨w4.heap.size, 0, none⟩) 1 1) (by rfl) (by decide) (by go_simp; rfl) (MKS.out _ _ _ _ (H4.out.alloc _)) ?_
  try simp only [Act.put, List.setIfInBounds_toArray, List.set_cons_zero, List.set_cons_succ]
  refine LexL.call (f := 28) (args := #[.pointer (some ⟨b, 0, none⟩), .slice (some ⟨w4.heap.size, 0, none⟩) 1 1]) (w1 := w4.alloc (.cells (svls [tDisk ++ N]).toArray 9)) (by rfl) (by decide) (by go_simp) ?_
  refine (say_sl b bg told _ [tDisk ++ N] _ (H4.out.alloc (.cells (svls [tDisk ++ N]).toArray 9)).two (svls_row rfl (by simp) _ rfl _) (by simp) (by simp) (by omega) (by rw [join_one']; simp [tDisk]; omega)).mono ?_
  rintro e w5 ⟨rfl, q5, h5⟩
  rw [join_one', ← HN.out] at h5
  have H5 := Lib.hid h5
  have Q5 := Lib.hid ((Q4.out.alloc (.cells (svls [tDisk ++ N]).toArray 9)).trans q5)
  clear h5 q5
  refine ⟨_, rfl, MKS.out _ _ _ _ H5.out.two, ?_⟩
  try simp only [Act.put, List.setIfInBounds_toArray, List.set_cons_zero, List.set_cons_succ]
  refine LexL.done ?_
  go_wp2
  go_ret
  exact ⟨rfl, Q5.out, H5.out.two.right⟩
end Go.Proofs.YtfihmpkkpgmdhaaGreatDoor

/-
  desk.ask: holders.
-/
namespace Go.Proofs.YtfihmpkkpgmdhaaGreatDoor
set_option maxRecDepth 100000
set_option linter.unusedSimpArgs false
set_option linter.unusedVariables false
set_option linter.unnecessarySimpa false
open Go.RowKit
theorem pair_cells {W : World} {g off n c : Nat} {l : List (Int × Int)} {R : HP} (h : Holds W (hold (.slice (some ⟨g, off, none⟩) n c) l * R)) {i : Nat} {a b : Int} (hi : l[i]? = some (a, b)) : W.cell? ⟨g, off + i * 2, none⟩ = some (.int .i64 a) ∧ W.cell? ⟨g, off + i * 2 + 1, none⟩ = some (.int .i64 b) := by
  have hn : l.length ≠ 0 := by intro e; have := (List.getElem?_eq_some_iff.1 hi).1; omega
  obtain ⟨g', off', c', e, _, _, hc⟩ := h.row.get hn
  simp only [Value.slice.injEq, Option.some.injEq, Addr.mk.injEq, and_true] at e
  obtain ⟨⟨rfl, rfl⟩, _, rfl⟩ := e
  obtain ⟨h1, h2⟩ := hvs_get l i (a, b) hi
  exact ⟨hc _ _ h1, by rw [Nat.add_assoc]; exact hc _ _ h2⟩
theorem flat2_take (l : List (Int × Int)) (k : Nat) (p : Int × Int) (h : l[k]? = some p) : flat2 (l.take (k + 1)) = flat2 (l.take k) ++ [p.1, p.2] := by
  rw [List.take_add_one, h]
  simp [flat2]
set_option maxHeartbeats 8000000 in
theorem ask_holders (b bg bd : Nat) (vs : Nat → Value) (told : List UInt8) (d : Dsk) (now a : Int) (v : Value) (w : World) {w0 : World} {RN R : HP}
    (h : Holds w (kst b bg told * (gblk bg bd vs now * (dsk bd d * (RN * (inum v [a] * (lay w0 * R))))))) (hd : d.Ok) (ht : told.length ≤ 300000000) :
    Calls Tryz.prog 27 #[.pointer (some ⟨b, 0, none⟩), .string (strOf tHolders), v] w fun e w' => e = .returned (.bool true) ∧ Quiet w w' ∧ Holds w' (kst b bg (told ++ line (tHolders ++ nums (flat2 (holders (evs Tbl.zero (allB d.b)) a)))) * (gblk bg bd vs now * (dsk bd d * (RN * (inum v [a] * (lay w0 * R)))))) := by
  obtain ⟨gn, cn, rfl, d1, d2⟩ := inum_cons (h.eq (by ac_rfl : _ = inum v [a] * (kst b bg told * (gblk bg bd vs now * (dsk bd d * (RN * (lay w0 * R)))))))
  simp only [List.length_nil, Nat.zero_add] at d1 h ⊢
  have hE := disk_evs d.b
  have hEL := disk_evs_len hd.b
  obtain ⟨E, hEe⟩ : ∃ E, evs Tbl.zero (allB d.b) = E := ⟨_, rfl⟩
  have hH := holders_small (hEe ▸ hE) a
  have hHL := holders_len E a
  rw [hEe] at hEL ⊢
  obtain ⟨hs, hhs⟩ : ∃ hs, holders E a = hs := ⟨_, rfl⟩
  rw [hhs] at hH hHL ⊢
  have HH := Lib.hid hH; have HD := Lib.hid hd; have HE := Lib.hid hEe; have HHS := Lib.hid hhs
  have hbJ := bytes_no (show tHolders ≠ tJob by decide); have hbD := bytes_no (show tHolders ≠ tDisk by decide); have hbL := bytes_no (show tHolders ≠ tLog by decide); have hbH := bytes_yes tHolders
  obtain ⟨T, hT⟩ : ∃ T, strOf tHolders = T := ⟨_, rfl⟩
  rw [hT] at hbJ hbD hbL hbH ⊢
  simp only [tJob, tDisk, tLog, tHolders] at hbJ hbD hbL hbH
  have H0 := Lib.hid h; have HT := Lib.hid hT
  clear h hd hT hE hEe hH hhs
  go_enter Tryz.func27, Tryz.ntmps27
  go_wp2_with fail
  have mkS : ∀ (W : World) (td : List UInt8) (A B : HP), Holds W (A * (kst b bg td * (gblk bg bd vs now * (inum (.slice (some ⟨gn, 0, none⟩) 1 cn) [a] * B)))) → W.cell? ⟨b, 2, none⟩ = some (.pointer (some ⟨bg, 0, none⟩)) ∧ W.cell? ⟨bg, 0, none⟩ = some (.pointer (some ⟨bd, 0, none⟩)) ∧ W.cell? ⟨gn, 0, none⟩ = some (.int .i64 a) := fun W td A B h => ⟨kst_bg h.two, (show Holds W (bl bg 65 (gcells bd vs now) * _) from h.three).bl.cell 0 _ rfl, inum_cell h.four 0 _ rfl⟩
  have HX1 := Lib.hid (H0.out.drew.eq (by ac_rfl : _ = dsk bd d * (kst b bg told * (gblk bg bd vs now * (inum (.slice (some ⟨gn, 0, none⟩) 1 cn) [a] * (RN * (lay w0 * R)))))))
  have MKS := Lib.hid mkS
  clear mkS
  refine wp_region_lex (fun W => W.cell? ⟨b, 2, none⟩ = some (.pointer (some ⟨bg, 0, none⟩)) ∧ W.cell? ⟨bg, 0, none⟩ = some (.pointer (some ⟨bd, 0, none⟩)) ∧ W.cell? ⟨gn, 0, none⟩ = some (.int .i64 a)) [7, 8, 12] (by kernel_rfl) (by kernel_rfl) (MKS.out _ _ _ _ HX1.out) ?_
  repeat (first | (refine LexL.none (by rfl) ?_; (try simp only [Act.put, List.setIfInBounds_toArray, List.set_cons_zero, List.set_cons_succ])) | (refine LexL.still (v := ?_) (by rfl) ?_ ?_; rotate_left; (focus (intro W hW; (try dsimp only at hW); go_simp; (try (with_reducible rfl)); done)); (try simp only [Act.put, List.setIfInBounds_toArray, List.set_cons_zero, List.set_cons_succ])))
  refine LexL.call (f := 52) (args := #[.pointer (some ⟨bd, 0, none⟩)]) (w1 := w.drew) (by rfl) (by decide) (by go_simp) ?_
  refine (bytes_sl bd d _ HX1.out HD.out).mono ?_
  rintro e w2 ⟨vb, rfl, q2, h2⟩
  replace h2 : Holds w2 (ownb vb d.b * (dsk bd d * (kst b bg told * (gblk bg bd vs now * (inum (.slice (some ⟨gn, 0, none⟩) 1 cn) [a] * (RN * (lay w0 * R))))))) := h2
  have H2 := Lib.hid h2; have Q2 := Lib.hid ((Quiet.refl w).drew.trans q2)
  clear h2 q2
  refine ⟨_, rfl, MKS.out _ _ _ _ H2.out.right, ?_⟩
  try simp only [Act.put, List.setIfInBounds_toArray, List.set_cons_zero, List.set_cons_succ]
  refine LexL.call (f := 54) (args := #[vb]) (w1 := w2) (by rfl) (by decide) (by go_simp) ?_
  refine (of_sl vb d.b w2 H2.out.ownb.bytes (by have := HD.out.b; omega) H2.out.right).mono ?_
  rw [HE.out]
  rintro e w3 ⟨ve, rfl, q3, h3⟩
  replace h3 : Holds w3 (sevs ve E * (dsk bd d * (kst b bg told * (gblk bg bd vs now * (inum (.slice (some ⟨gn, 0, none⟩) 1 cn) [a] * (RN * (lay w0 * R))))))) := h3
  have H3 := Lib.hid h3; have Q3 := Lib.hid (Q2.out.trans q3)
  clear h3 q3
  refine ⟨_, rfl, MKS.out _ _ _ _ H3.out.right, ?_⟩
  try simp only [Act.put, List.setIfInBounds_toArray, List.set_cons_zero, List.set_cons_succ]
  repeat (first | (refine LexL.none (by rfl) ?_; (try simp only [Act.put, List.setIfInBounds_toArray, List.set_cons_zero, List.set_cons_succ])) | (refine LexL.still (v := ?_) (by rfl) ?_ ?_; rotate_left; (focus (intro W hW; (try dsimp only at hW); go_simp; (try (with_reducible rfl)); done)); (try simp only [Act.put, List.setIfInBounds_toArray, List.set_cons_zero, List.set_cons_succ])))
  refine LexL.call (f := 55) (args := #[ve, .int .i64 a]) (w1 := w3) (by rfl) (by decide) (by go_simp) ?_
  refine (holders_sl ve E a w3 H3.out.row (by omega) H3.out.right).mono ?_
  rw [HHS.out]
  rintro e w4 ⟨vh, rfl, q4, h4⟩
  replace h4 : Holds w4 (hold vh hs * (dsk bd d * (kst b bg told * (gblk bg bd vs now * (inum (.slice (some ⟨gn, 0, none⟩) 1 cn) [a] * (RN * (lay w0 * R))))))) := h4
  obtain ⟨ah, ch, rfl, -, -⟩ := h4.row.shape
  have H4 := Lib.hid h4; have Q4 := Lib.hid (Q3.out.trans q4)
  clear h4 q4
  refine ⟨_, rfl, MKS.out _ _ _ _ H4.out.right, ?_⟩
  try simp only [Act.put, List.setIfInBounds_toArray, List.set_cons_zero, List.set_cons_succ]
  repeat (first | (refine LexL.none (by rfl) ?_; (try simp only [Act.put, List.setIfInBounds_toArray, List.set_cons_zero, List.set_cons_succ])) | (refine LexL.still (v := ?_) (by rfl) ?_ ?_; rotate_left; (focus (intro W hW; (try dsimp only at hW); go_simp; (try (with_reducible rfl)); done)); (try simp only [Act.put, List.setIfInBounds_toArray, List.set_cons_zero, List.set_cons_succ])))
  refine LexL.done ?_
  go_wp2_with fail
  go_loopw [11, 162] (fun s i wr => ∃ k : Nat, k ≤ hs.length ∧ i = .int .i64 k ∧ s = .string (strOf (tHolders ++ nums (flat2 (hs.take k)))) ∧ Holds wr (hold (.slice ah hs.length ch) hs * (dsk bd d * (kst b bg told * (gblk bg bd vs now * (inum (.slice (some ⟨gn, 0, none⟩) 1 cn) [a] * (RN * (lay w0 * R))))))) ∧ Quiet w wr) (fun _ i _ => hs.length - (intOf i).toNat)
  case atStart => exact ⟨0, by omega, rfl, by simp [flat2, nums, tHolders]; rfl, H4.out, Q4.out⟩
  case round =>
    obtain ⟨k, hk, rfl, rfl, hh, hq⟩ := hrel
    have hsm : ∀ n ∈ flat2 (hs.take k), Sm n := flat2_small fun p hp => HH.out p (List.mem_of_mem_take hp)
    have hle : (nums (flat2 (hs.take k))).length ≤ 22 * (2 * k) := by
      have := nums_len hsm
      rw [flat2_len, List.length_take] at this; omega
    obtain ⟨S, hS⟩ : ∃ S, tHolders ++ nums (flat2 (hs.take k)) = S := ⟨_, rfl⟩
    have hSl : S.length ≤ 7 + 44 * 166 := by rw [← hS, List.length_append]; simp only [tHolders, List.length_cons, List.length_nil]; omega
    rw [hS]
    have HS := Lib.hid hS; have HQ := Lib.hid hq; have HH5 := Lib.hid hh
    clear hS hq hh hsm hle
    obtain ⟨wo, rfl⟩ : ∃ wo : World, wo = wr := ⟨_, rfl⟩
    by_cases hlt : k < hs.length
    · obtain ⟨⟨pa, pb⟩, hp⟩ : ∃ p, hs[k]? = some p := ⟨_, List.getElem?_eq_getElem hlt⟩
      obtain ⟨gh, oh, ch', eh, _⟩ := HH5.out.row.get (by omega)
      simp only [Value.slice.injEq] at eh
      obtain ⟨rfl, _, rfl⟩ := eh
      obtain ⟨y0, y1⟩ := pair_cells HH5.out hp
      have hps := HH.out _ (List.mem_of_getElem? hp)
      have hpi : ∀ n ∈ [pa, pb], I64' n := fun n hn => by
        simp only [List.mem_cons, List.mem_nil_iff, or_false] at hn
        rcases hn with rfl | rfl
        · exact sm_i64 hps.1
        · exact sm_i64 hps.2
      have hpl := nums_le hpi
      simp only [List.length_cons, List.length_nil] at hpl
      have hst := flat2_take hs k (pa, pb) hp
      have hst2 : tHolders ++ nums (flat2 (hs.take (k + 1))) = S ++ nums [pa, pb] := by rw [hst, nums_append, ← List.append_assoc, HS.out]
      have HST := Lib.hid hst2; have HPI := Lib.hid hpi
      clear hp hps hpi hst hst2
      have H6 := Lib.hid ((HH5.out.alloc (.cells #[.int .i64 pa, .int .i64 pb] 128)).alloc (.cells (ivs [pa, pb]).toArray 3))
      have hla := lay_laid (H6.out.eq (by ac_rfl : _ = lay w0 * (hold (.slice (some ⟨gh, oh, none⟩) hs.length ch) hs * (dsk bd d * (kst b bg told * (gblk bg bd vs now * (inum (.slice (some ⟨gn, 0, none⟩) 1 cn) [a] * (RN * R))))))))
      have HLA := Lib.hid hla; clear hla
      obtain ⟨N, hN⟩ : ∃ N, nums [pa, pb] = N := ⟨_, rfl⟩
      rw [hN] at hpl
      have hs1 := strOf_size S; have hs2 := strOf_size N; have hs3 := strOf_append S N
      have HS3 := Lib.hid hs3; clear hs3
      go_wp2_with (go_at_call 50; refine (nums_sl _ [pa, pb] _ HLA.out (ivs_row (by simp) (by simp) _ rfl _) (by simp) HPI.out).mono ?_; rw [hN]; rintro e w6 ⟨rfl, hb6⟩; have HB6 := Lib.hid hb6; clear hb6)
      go_roundw
      case rel => exact ⟨k + 1, by omega, by go_num, by rw [HST.out, hN, ← HS3.out], H6.out.below HB6.out, ((HQ.out.alloc _).alloc _).trans (Quiet.below HB6.out)⟩
      case measure => simp [intOf]; omega
    · obtain rfl : k = hs.length := by omega
      have HS' := HS.out
      rw [List.take_length] at HS'
      have HS2 := Lib.hid HS'; clear HS'
      go_wp2_with (go_at_call 28; refine (say_sl b bg told _ [S] _ (HH5.out.alloc (.cells (svls [S]).toArray 9)).three (svls_row (by simp) (by simp) _ rfl _) (by simp) (by simp) (by omega) (by rw [join_one']; omega)).mono ?_; rintro e w6 ⟨rfl, q6, h6⟩)
      rw [join_one', ← HS2.out] at h6
      go_ret
      exact ⟨rfl, (HQ.out.alloc _).trans q6, (h6.eq (by ac_rfl : _ = hold (.slice ah hs.length ch) hs * (kst b bg (told ++ line (tHolders ++ nums (flat2 hs))) * (gblk bg bd vs now * (dsk bd d * (RN * (inum (.slice (some ⟨gn, 0, none⟩) 1 cn) [a] * (lay w0 * R)))))))).right⟩
end Go.Proofs.YtfihmpkkpgmdhaaGreatDoor
