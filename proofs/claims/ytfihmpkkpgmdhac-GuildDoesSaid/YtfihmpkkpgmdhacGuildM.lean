/-
  The guild laws' beginning, walked.
-/
import Derived.Test.YtfihmpkkpgmdhacGuildL
namespace Go.Proofs.Ytfihmpkkpgmdhac
set_option linter.unusedSimpArgs false
set_option linter.unusedVariables false
open Go.RowKit
set_option maxRecDepth 100000 in
set_option maxHeartbeats 8000000 in
theorem guildBegun_any (w : World) : Calls Try.prog 9 #[] w fun e w' => e = .returned (.bool true) ∧ Below w.heap.size w w' := by
  have hfld3 : ∀ (a b c d : Value) (W : World), (Instr.field 37 (.agg #[a, b, c, d]) 3).run Try.prog W = .ok d W := fun a b c d W => by kernel_rfl
  go_enter Try.func9, Try.ntmps9
  go_wp2_with fail
  refine (gNew_sl _ Holds.old).mono ?_
  rintro e w0 ⟨b, rfl, q0, h0⟩
  have H0 := Lib.hid (show Holds w0 (gld b Gld.zero * old w) from h0); have Q0 := Lib.hid q0; clear h0 q0
  go_wp2_with fail
  refine (gstep_sl b Gld.zero 1 1 0 0 0 0 0 0 0 _ H0.out good_zero).mono ?_
  rw [gz1_e]
  rintro e w1 ⟨rfl, q1, h1⟩
  have H1 := Lib.hid ((h1.boxB (ty := 32) (cs := acells ⟨0, 0, 0⟩) rfl).two); have Q1 := Lib.hid ((Q0.out.trans q1).alloc (.cells (acells ⟨0, 0, 0⟩).toArray 32)); clear h1 q1 H0 Q0
  simp only [Ans.val]
  go_wp2_with fail
  refine (gstep_sl b gz1 2 1 0 1 7 4 0 0 0 _ H1.out gz1_ok).mono ?_
  rw [gz2_e]
  rintro e w2 ⟨rfl, q2, h2⟩
  have H2 := Lib.hid ((h2.boxB (ty := 32) (cs := acells ⟨0, 0, 0⟩) rfl).two); have Q2 := Lib.hid ((Q1.out.trans q2).alloc (.cells (acells ⟨0, 0, 0⟩).toArray 32)); clear h2 q2 H1 Q1
  simp only [Ans.val]
  go_wp2_with fail
  refine (gstep_sl b gz2 5 9 0 0 0 0 0 0 0 _ H2.out gz2_ok).mono ?_
  rw [gz3_e]
  rintro e w3 ⟨rfl, q3, h3⟩
  have H3 := Lib.hid ((h3.boxB (ty := 32) (cs := acells ⟨0, 0, 0⟩) rfl).two); have Q3 := Lib.hid ((Q2.out.trans q3).alloc (.cells (acells ⟨0, 0, 0⟩).toArray 32)); clear h3 q3 H2 Q2
  simp only [Ans.val]
  go_wp2_with fail
  refine (gstep_sl b gz3 1 2 0 0 0 0 0 0 0 _ H3.out gz3_ok).mono ?_
  rw [gz4_e]
  rintro e w4 ⟨rfl, q4, h4⟩
  have H4 := Lib.hid ((h4.boxB (ty := 32) (cs := acells ⟨0, 0, 0⟩) rfl).two); have Q4 := Lib.hid ((Q3.out.trans q4).alloc (.cells (acells ⟨0, 0, 0⟩).toArray 32)); clear h4 q4 H3 Q3
  simp only [Ans.val]
  go_wp2_with fail
  refine (gstep_sl b gz4 2 2 0 2 0 0 0 1 3 _ H4.out gz4_ok).mono ?_
  rw [gz5_e]
  rintro e w5 ⟨rfl, q5, h5⟩
  have H5 := Lib.hid ((h5.boxB (ty := 32) (cs := acells ⟨0, 4, 1⟩) rfl).two); have Q5 := Lib.hid ((Q4.out.trans q5).alloc (.cells (acells ⟨0, 4, 1⟩).toArray 32)); clear h5 q5 H4 Q4
  simp only [Ans.val]
  go_wp2_with fail
  refine (gstep_sl b gz5 2 1 0 2 0 0 0 2 3 _ H5.out gz5_ok).mono ?_
  rw [gz6_e]
  rintro e w6 ⟨rfl, q6, h6⟩
  have H6 := Lib.hid ((h6.boxB (ty := 32) (cs := acells ⟨9, 0, 0⟩) rfl).two); have Q6 := Lib.hid ((Q5.out.trans q6).alloc (.cells (acells ⟨9, 0, 0⟩).toArray 32)); clear h6 q6 H5 Q5
  simp only [Ans.val]
  obtain ⟨bd, vs, h7⟩ := gld_open H6.out
  rw [gz6_now] at h7
  have H7 := Lib.hid h7
  obtain ⟨n, hn, hj⟩ := gz6_n
  obtain ⟨bn, hv2, h9⟩ := pick_some h7 (i := 2) (by omega) hn
  obtain ⟨bt, h10⟩ := nod_open h9
  have hv0 := pick_none h7 (i := 0) (by omega) gz6_f0
  have HV2 := Lib.hid (show gAt vs 2 = .pointer (some ⟨bn, 0, none⟩) from hv2)
  have HV0 := Lib.hid (show gAt vs 0 = .pointer none from hv0)
  have H10 := Lib.hid h10
  have HJ := Lib.hid hj
  clear h7 h9 hv2 hv0 hn hj h10
  go_wp2_with fail
  refine (gNode_sl b bd vs 9 2 _ H7.out).mono ?_
  rw [HV2.out]
  rintro e wz ⟨rfl, hz⟩
  rw [hz] at H6 Q6 H7 H10
  clear hz
  have y6 := H6.out.right.bl.cells
  have y5 := H6.out.right.right.bl.cells
  have y4 := H6.out.right.right.right.bl.cells
  have y3 := H6.out.right.right.right.right.bl.cells
  have y2 := H6.out.right.right.right.right.right.bl.cells
  have y1 := H6.out.right.right.right.right.right.right.bl.cells
  have cn0 := (show BlockAt wz bn 61 (ncells bt bd n) from H10.out.bl).cell 0 _ rfl
  have cg0 := (show BlockAt wz b 49 (gcells bd vs 9) from H7.out.bl).cell 0 _ rfl
  simp only [acells] at y1 y2 y3 y4 y5 y6
  go_wp2_with fail
  refine (job_sl bt n.t 4 _ H10.out.two).mono ?_
  rw [HJ.out]
  simp only [Job.val, jcells]
  rintro e w8 ⟨rfl, hb8⟩
  have H8 := Lib.hid (H7.out.below hb8); have Q8 := Lib.hid (Q6.out.trans (Quiet.below hb8)); have HO := Lib.hid (H6.out.below hb8)
  have cg8 := (show BlockAt w8 b 49 (gcells bd vs 9) from H8.out.bl).cell 0 _ rfl
  clear hb8 y1 y2 y3 y4 y5 y6 cn0 cg0
  go_wp2_with fail
  refine (gNow_sl b bd vs 9 _ H8.out).mono ?_
  rintro e w9 ⟨rfl, rfl⟩
  go_wp2_with fail
  refine (depoch_sl bd gz6.d _ H8.out.two).mono ?_
  rw [gz6_ep]
  rintro e w10 ⟨rfl, rfl⟩
  go_wp2_with fail
  refine (gNode_sl b bd vs 9 0 _ H8.out).mono ?_
  rw [HV0.out]
  rintro e w11 ⟨rfl, rfl⟩
  go_wp2_with fail
  refine (bytes_sl bd gz6.d _ H8.out.two (by obtain ⟨l, h⟩ := gz6_ok; exact h.fam.ok)).mono ?_
  rintro e w12 ⟨v, rfl, q12, h12⟩
  obtain ⟨av, cv, hv, _⟩ := h12.ownb.bytes.shape
  rw [gz6_len] at hv
  subst hv
  have Q12 := Lib.hid (Q8.out.trans q12)
  have H12 := Lib.hid (h12.right.right.right.right.right.right.right.right.right.right)
  clear h12 q12
  go_wp2
  go_ret
  exact ⟨rfl, H12.out.toBelow' Q12.out⟩
end Go.Proofs.Ytfihmpkkpgmdhac
