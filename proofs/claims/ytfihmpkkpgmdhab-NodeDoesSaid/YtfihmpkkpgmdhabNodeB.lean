/-
  The node laws' beginning, walked.
-/
import Derived.Test.YtfihmpkkpgmdhabNodeN
import Derived.Test.YtfihmpkkpgmdhabPlainN
namespace Go.Proofs.Ytfihmpkkpgmdhab
set_option linter.unusedSimpArgs false
set_option linter.unusedVariables false
open Go.RowKit
def kd1 : Dsk := (opened Dsk.zero).1
def kn1 : Nod := ⟨behind (found Dsk.zero), Dsk.zero.ep + 1, false⟩
def kd2 : Dsk := (kn1.order kd1 ⟨1, 0, 1, 0, 0, 0⟩ 9).1
def kn2 : Nod := (kn1.order kd1 ⟨1, 0, 1, 0, 0, 0⟩ 9).2.1
def kd3 : Dsk := (kn2.order kd2 ⟨2, 0, 0, 0, 2, 3⟩ 9).1
def kn3 : Nod := (kn2.order kd2 ⟨2, 0, 0, 0, 2, 3⟩ 9).2.1
def kd4 : Dsk := (opened kd3).1
def km1 : Nod := ⟨behind (found kd3), kd3.ep + 1, false⟩
def kd5 : Dsk := (kn3.order kd4 ⟨1, 0, 2, 0, 0, 0⟩ 9).1
def kn4 : Nod := (kn3.order kd4 ⟨1, 0, 2, 0, 0, 0⟩ 9).2.1
def kd6 : Dsk := (km1.tear kd5 ⟨1, 0, 3, 0, 0, 0⟩ (keepN 4)).1
def km2 : Nod := (km1.tear kd5 ⟨1, 0, 3, 0, 0, 0⟩ (keepN 4)).2.1
theorem k2_e : kn1.order kd1 ⟨1, 0, 1, 0, 0, 0⟩ 9 = (kd2, kn2, ⟨0, 0, 0⟩) := Prod.ext rfl (Prod.ext rfl (by kernel_rfl))
theorem k3_e : kn2.order kd2 ⟨2, 0, 0, 0, 2, 3⟩ 9 = (kd3, kn3, ⟨0, 1, 1⟩) := Prod.ext rfl (Prod.ext rfl (by kernel_rfl))
theorem k5_e : kn3.order kd4 ⟨1, 0, 2, 0, 0, 0⟩ 9 = (kd5, kn4, ⟨9, 0, 0⟩) := Prod.ext rfl (Prod.ext rfl (by kernel_rfl))
theorem k6_e : km1.tear kd5 ⟨1, 0, 3, 0, 0, 0⟩ (keepN 4) = (kd6, km2, 0) := Prod.ext rfl (Prod.ext rfl (by kernel_rfl))
theorem kep3 : kd3.ep = 1 := by kernel_rfl
theorem k1_g : (⟨kd1, [kn1]⟩ : Crw).Good := (Crw.empty_good Dsk.zero_ok).openKeep (by decide) (by decide)
theorem k2_g : (⟨kd2, [kn2]⟩ : Crw).Good := k1_g.order (i := 0) rfl _
theorem k3_g : (⟨kd3, [kn3]⟩ : Crw).Good := k2_g.order (i := 0) rfl _
theorem k4_g : (⟨kd4, [kn3, km1]⟩ : Crw).Good := k3_g.openKeep (by show ¬ 100 ≤ kd3.ep; rw [kep3]; decide) (by decide)
theorem k5_g : (⟨kd5, [kn4, km1]⟩ : Crw).Good := k4_g.order (i := 0) rfl _
theorem k6_g : (⟨kd6, [kn4, km2]⟩ : Crw).Good := k5_g.tear (i := 1) rfl _ 4
theorem kn4_down : kn4.down = true := by kernel_rfl
theorem km2_down : km2.down = true := by kernel_rfl
theorem km2_ep : km2.ep = 2 := by kernel_rfl
theorem km2_1 : (km2.t.job 1).st = 2 := by kernel_rfl
theorem km2_3 : (km2.t.job 3).st = 0 := by kernel_rfl
theorem kd6_len : kd6.b.length = 22 := by kernel_rfl
set_option maxRecDepth 100000 in
set_option maxHeartbeats 8000000 in
theorem nodeBegun_any (w : World) : Calls Try.prog 33 #[] w fun e w' => e = .returned (.bool true) ∧ Below w.heap.size w w' := by
  have hfld0 : ∀ (a b c d : Value) (W : World), (Instr.field 27 (.agg #[a, b, c, d]) 0).run Try.prog W = .ok a W := fun a b c d W => by kernel_rfl
  go_enter Try.func33, Try.ntmps33
  go_wp2_with fail
  refine (dnew_sl _ Holds.old).mono ?_
  rintro e w0 ⟨bd, rfl, q0, h0⟩
  have H0 := Lib.hid (show Holds w0 (dsk bd Dsk.zero * old w) from h0); have Q0 := Lib.hid q0; clear h0 q0
  go_wp2_with fail
  refine (nOpen_sl bd Dsk.zero _ H0.out Dsk.zero_ok (by decide)).mono ?_
  rintro e w1 ⟨bn, rfl, q1, h1⟩
  have H1 := Lib.hid (show Holds w1 (nod bn bd kn1 * (dsk bd kd1 * old w)) from h1); have Q1 := Lib.hid (Q0.out.trans q1); clear h1 q1 H0 Q0
  obtain ⟨e1, _, o1⟩ := k1_g.node (i := 0) rfl
  go_wp2_with fail
  refine (nOrder_sl bn bd kd1 kn1 1 0 1 0 0 0 _ H1.out k1_g.dok e1 o1).mono ?_
  rw [k2_e]
  rintro e w2 ⟨rfl, q2, h2⟩
  simp only [Ans.val]
  have H2 := Lib.hid (((show Holds w2 (nod bn bd kn2 * (dsk bd kd2 * old w)) from h2).boxB (ty := 32) (cs := [.int .i64 0, .int .i64 0, .int .i64 0]) rfl).eq (by ac_rfl : _ = nod bn bd kn2 * (dsk bd kd2 * (bl w2.heap.size 32 [.int .i64 0, .int .i64 0, .int .i64 0] * old w))))
  have Q2 := Lib.hid ((Q1.out.trans q2).alloc (.cells #[.int .i64 0, .int .i64 0, .int .i64 0] 32)); clear h2 q2 H1 Q1
  obtain ⟨e2, _, o2⟩ := k2_g.node (i := 0) rfl
  go_wp2_with fail
  refine (nOrder_sl bn bd kd2 kn2 2 0 0 0 2 3 _ H2.out k2_g.dok e2 o2).mono ?_
  rw [k3_e]
  rintro e w3 ⟨rfl, q3, h3⟩
  simp only [Ans.val]
  obtain ⟨g2, hg2⟩ : ∃ g2, w2.heap.size = g2 := ⟨_, rfl⟩
  rw [hg2] at h3 ⊢
  have H3 := Lib.hid (((show Holds w3 (nod bn bd kn3 * (dsk bd kd3 * (bl g2 32 [.int .i64 0, .int .i64 0, .int .i64 0] * old w))) from h3).boxB (ty := 32) (cs := [.int .i64 0, .int .i64 1, .int .i64 1]) rfl).eq (by ac_rfl : _ = nod bn bd kn3 * (dsk bd kd3 * (bl w3.heap.size 32 [.int .i64 0, .int .i64 1, .int .i64 1] * (bl g2 32 [.int .i64 0, .int .i64 0, .int .i64 0] * old w)))))
  have Q3 := Lib.hid ((Q2.out.trans q3).alloc (.cells #[.int .i64 0, .int .i64 1, .int .i64 1] 32)); clear h3 q3 H2 Q2 hg2
  go_wp2_with fail
  refine (nOpen_sl bd kd3 _ H3.out.two k3_g.dok (by rw [kep3]; decide)).mono ?_
  rintro e w4 ⟨bm, rfl, q4, h4⟩
  obtain ⟨g3, hg3⟩ : ∃ g3, w3.heap.size = g3 := ⟨_, rfl⟩
  rw [hg3] at h4 ⊢
  have H4 := Lib.hid ((show Holds w4 (nod bm bd km1 * (dsk bd kd4 * (nod bn bd kn3 * (bl g3 32 [.int .i64 0, .int .i64 1, .int .i64 1] * (bl g2 32 [.int .i64 0, .int .i64 0, .int .i64 0] * old w))))) from h4).eq (by ac_rfl : _ = nod bn bd kn3 * (dsk bd kd4 * (nod bm bd km1 * (bl g3 32 [.int .i64 0, .int .i64 1, .int .i64 1] * (bl g2 32 [.int .i64 0, .int .i64 0, .int .i64 0] * old w))))))
  have Q4 := Lib.hid (Q3.out.trans q4); clear h4 q4 H3 Q3 hg3
  obtain ⟨e4, _, o4⟩ := k4_g.node (i := 0) rfl
  go_wp2_with fail
  refine (nOrder_sl bn bd kd4 kn3 1 0 2 0 0 0 _ H4.out k4_g.dok e4 o4).mono ?_
  rw [k5_e]
  rintro e w5 ⟨rfl, q5, h5⟩
  simp only [Ans.val]
  have H5 := Lib.hid (((show Holds w5 (nod bn bd kn4 * (dsk bd kd5 * (nod bm bd km1 * (bl g3 32 [.int .i64 0, .int .i64 1, .int .i64 1] * (bl g2 32 [.int .i64 0, .int .i64 0, .int .i64 0] * old w))))) from h5).boxB (ty := 32) (cs := [.int .i64 9, .int .i64 0, .int .i64 0]) rfl).eq (by ac_rfl : _ = nod bm bd km1 * (dsk bd kd5 * (nod bn bd kn4 * (bl w5.heap.size 32 [.int .i64 9, .int .i64 0, .int .i64 0] * (bl g3 32 [.int .i64 0, .int .i64 1, .int .i64 1] * (bl g2 32 [.int .i64 0, .int .i64 0, .int .i64 0] * old w)))))))
  have Q5 := Lib.hid ((Q4.out.trans q5).alloc (.cells #[.int .i64 9, .int .i64 0, .int .i64 0] 32)); clear h5 q5 H4 Q4
  obtain ⟨e5, _, o5⟩ := k5_g.node (i := 1) rfl
  go_wp2_with fail
  refine (nTear_sl bm bd kd5 km1 1 0 3 0 0 0 4 _ H5.out k5_g.dok e5 o5).mono ?_
  rw [k6_e]
  rintro e w6 ⟨rfl, q6, h6⟩
  dsimp only
  obtain ⟨g5, hg5⟩ : ∃ g5, w5.heap.size = g5 := ⟨_, rfl⟩
  rw [hg5] at h6 ⊢
  have H6 := Lib.hid (show Holds w6 (nod bm bd km2 * (dsk bd kd6 * (nod bn bd kn4 * (bl g5 32 [.int .i64 9, .int .i64 0, .int .i64 0] * (bl g3 32 [.int .i64 0, .int .i64 1, .int .i64 1] * (bl g2 32 [.int .i64 0, .int .i64 0, .int .i64 0] * old w)))))) from h6)
  have Q6 := Lib.hid (Q5.out.trans q6); clear h6 q6 H5 Q5 hg5
  go_wp2_with fail
  refine (nOpen_nil _).mono ?_
  rintro e w7 ⟨rfl, rfl⟩
  have k5 := H6.out.four.bl.cells
  have k3 := H6.out.right.right.right.right.bl.cells
  have k2 := H6.out.right.right.right.right.right.bl.cells
  go_wp2_with fail
  refine (nDown_sl bn bd kn4 _ H6.out.three).mono ?_
  rintro e w7 ⟨rfl, rfl⟩
  rw [kn4_down]
  go_wp2_with fail
  refine (nDown_sl bm bd km2 _ H6.out).mono ?_
  rintro e w7 ⟨rfl, rfl⟩
  rw [km2_down]
  obtain ⟨bt, h7⟩ := nod_open H6.out
  have cn := (show BlockAt w6 bm 87 (ncells bt bd km2) from h7.bl).cell 0 _ rfl
  have H7 := Lib.hid h7; clear h7
  obtain ⟨⟨s1, s2, s3, s4⟩, hJ⟩ : ∃ J, km2.t.job 1 = J := ⟨_, rfl⟩
  have hs1 : s1 = 2 := by have := km2_1; rw [hJ] at this; exact this
  subst hs1
  have HJ := Lib.hid hJ; clear hJ
  go_wp2_with fail
  refine (job_sl bt km2.t 1 _ H7.out.two).mono ?_
  rw [HJ.out]
  simp only [Job.val, jcells]
  rintro e w8 ⟨rfl, hb8⟩
  have H8 := Lib.hid (H7.out.below hb8); have Q8 := Lib.hid (Q6.out.trans (Quiet.below hb8)); clear hb8 cn k5 k3 k2
  have cn := (show BlockAt w8 bm 87 (ncells bt bd km2) from H8.out.bl).cell 0 _ rfl
  obtain ⟨⟨t1, t2, t3, t4⟩, hJ⟩ : ∃ J, km2.t.job 3 = J := ⟨_, rfl⟩
  have ht1 : t1 = 0 := by have := km2_3; rw [hJ] at this; exact this
  subst ht1
  have HJ3 := Lib.hid hJ; clear hJ
  go_wp2_with fail
  refine (job_sl bt km2.t 3 _ H8.out.two).mono ?_
  rw [HJ3.out]
  simp only [Job.val, jcells]
  rintro e w9 ⟨rfl, hb9⟩
  have H9 := Lib.hid (nod_close (H8.out.below hb9)); have Q9 := Lib.hid (Q8.out.trans (Quiet.below hb9)); clear hb9 cn
  go_wp2_with fail
  refine (nEpoch_sl bm bd km2 _ H9.out).mono ?_
  rintro e w10 ⟨rfl, rfl⟩
  rw [km2_ep]
  go_wp2_with fail
  refine (bytes_sl bd kd6 _ H9.out.two k6_g.dok).mono ?_
  rintro e w11 ⟨vb, rfl, q11, h11⟩
  obtain ⟨ab, cb, rfl, _, _⟩ := h11.ownb.bytes.shape
  rw [kd6_len]
  have Q11 := Lib.hid (Q9.out.trans q11)
  have H11 := Lib.hid (show Holds w11 (ownb (.slice ab kd6.b.length cb) kd6.b * (dsk bd kd6 * (nod bm bd km2 * (nod bn bd kn4 * (bl g5 32 [.int .i64 9, .int .i64 0, .int .i64 0] * (bl g3 32 [.int .i64 0, .int .i64 1, .int .i64 1] * (bl g2 32 [.int .i64 0, .int .i64 0, .int .i64 0] * old w))))))) from h11)
  go_wp2_with fail
  go_ret
  exact ⟨rfl, H11.out.right.right.right.right.right.right.right.toBelow' Q11.out⟩
end Go.Proofs.Ytfihmpkkpgmdhab
