/-
  CodecDoes, walked: every Check, Encode, Decode and All is as the document says.
-/
import Derived.Test.YtfihmpkkpgmdhaaCodecS
import Derived.Test.YtfihmpkkpgmdhaaPlain7
namespace Go.Proofs.Ytfihmpkkpgmdhaa
set_option linter.unusedSimpArgs false
set_option linter.unusedVariables false
open Go.RowKit
set_option maxRecDepth 100000 in
set_option maxHeartbeats 8000000 in
theorem codecDoes_any (p c n j t k m : Int) (v : Value) (l : List UInt8) (w : World) (hv : BytesAt w v l) :
    Calls Try.prog 6 #[.agg #[.int .i64 p, .int .i64 c, .int .i64 n, .int .i64 j, .int .i64 t, .int .i64 k, .int .i64 m], v] w fun e w' => e = .returned (.bool true) ∧ Below w.heap.size w w' := by
  obtain ⟨a, cc, rfl, c1, c2⟩ := hv.shape
  have HV := Lib.hid hv; clear hv
  go_enter Try.func6, Try.ntmps6
  go_wp2_with fail
  refine (codecBegun_any _).mono ?_
  rintro e w1 ⟨rfl, hb1⟩
  have H1 := Lib.hid ((Holds.old.boxB (ty := 44) (cs := rcells ⟨p, ⟨c, n, j, t, k, m⟩⟩) rfl).below hb1)
  have Q1 := Lib.hid (((Quiet.refl w).alloc _).trans (Quiet.below hb1)); clear hb1
  have x0 := H1.out.bl.cells
  have l0 := H1.out.bl.lt
  simp only [rcells] at x0
  by_cases hlen : 4000 < l.length
  · go_wp2
    go_ret
    exact ⟨rfl, H1.out.toBelow Q1.out⟩
  · obtain ⟨C, hC⟩ : ∃ C, chkR ⟨p, ⟨c, n, j, t, k, m⟩⟩ = C := ⟨_, rfl⟩
    have HC := Lib.hid hC; clear hC
    obtain ⟨D, hD⟩ : ∃ D, decB l = D := ⟨_, rfl⟩
    obtain ⟨⟨ep, ⟨c', n', j', t', k', m'⟩⟩, code⟩ := D
    have HD := Lib.hid hD; clear hD
    go_wp2_with fail
    refine (enc_sl p c n j t k m _ H1.out).mono ?_
    rw [HC.out]
    rintro e w2 ⟨v2, rfl, q2, h2⟩
    have x0 := h2.right.bl.cells
    have l0 := h2.right.bl.lt
    simp only [rcells] at x0
    have H2 := Lib.hid h2; have Q2 := Lib.hid q2; clear h2 q2
    go_wp2_with fail
    refine (rfault_any p c n j t k m _).mono ?_
    rw [HC.out]
    rintro e w3 ⟨rfl, hb3⟩
    have H3 := Lib.hid (H2.out.below hb3); have Q3 := Lib.hid (Quiet.below hb3); clear hb3
    have x0 := H3.out.right.bl.cells
    have l0 := H3.out.right.bl.lt
    simp only [rcells] at x0
    by_cases h0 : C = 0
    · subst h0
      go_wp2_with fail
      refine (bof_sl p c n j t k m _ HC.out H3.out).mono ?_
      rintro e w4 ⟨v4, rfl, q4, h4⟩
      have hs := run_string_bytes h4.ownb.bytes
      have H4 := Lib.hid h4.right
      have x0 := h4.right.right.bl.cells
      have l0 := h4.right.right.bl.lt
      simp only [rcells] at x0
      first | rw [if_pos rfl] at H4 | rw [if_pos trivial] at H4
      have Q4 := Lib.hid ((Q1.out.trans Q2.out).trans (Q3.out.trans q4)); clear h4 q4
      obtain ⟨S, hS⟩ : ∃ S, strOf (encB ⟨p, ⟨c, n, j, t, k, m⟩⟩) = S := ⟨_, rfl⟩
      rw [hS] at hs
      have HS := Lib.hid hS; clear hS
      go_wp2_with fail
      refine (decode_any _ l _ (HV.out.old H4.out.right)).mono ?_
      rw [HD.out]
      rintro e w5 ⟨rfl, hb5⟩
      have H5 := Lib.hid ((H4.out.below hb5).boxB (ty := 44) (cs := rcells ⟨ep, ⟨c', n', j', t', k', m'⟩⟩) rfl); have Q5 := Lib.hid (Quiet.below hb5); clear hb5 x0 l0
      go_wp2_with fail
      refine (recof_any _ l _ (HV.out.old H5.out.right.right)).mono ?_
      rw [HD.out]
      rintro e w6 ⟨rfl, hb6⟩
      have H6 := Lib.hid ((H5.out.below hb6).boxB (ty := 44) (cs := rcells ⟨ep, ⟨c', n', j', t', k', m'⟩⟩) rfl); have Q6 := Lib.hid (Quiet.below hb6)
      have x0 := (H5.out.below hb6).right.right.bl.cells
      have l0 := (H5.out.below hb6).right.right.bl.lt
      simp only [rcells] at x0
      clear hb6
      go_wp2_with fail
      refine (ccheck_any p c n j t k m _).mono ?_
      rw [HC.out]
      rintro e w7 ⟨rfl, hb7⟩
      have h7 := H6.out.below hb7
      have Q7 := Lib.hid (Quiet.below hb7); clear hb7 x0 l0
      have x6 := h7.bl.cells
      have l6 := h7.bl.lt
      have x5 := h7.right.bl.cells
      have l5 := h7.right.bl.lt
      have hs := run_string_bytes h7.right.right.ownb.bytes
      rw [HS.out] at hs
      simp only [rcells] at x5 x6
      have H7 := Lib.hid h7; clear h7
      go_wp2_with fail
      refine (all_sl _ l _ (HV.out.old H7.out.right.right.right) (by omega) H7.out).mono ?_
      rintro e w8 ⟨v8, rfl, q8, h8⟩
      have H8 := Lib.hid h8; have Q8 := Lib.hid q8; clear h8 q8
      go_wp2_with fail
      refine (recsof_sl _ l _ (HV.out.old H8.out.right.right.right.right) (by omega) H8.out).mono ?_
      rintro e w9 ⟨v9, rfl, q9, h9⟩
      have H9 := Lib.hid h9; have Q9 := Lib.hid q9; clear h9 q9
      go_wp2_with fail
      refine (same_recs _ _ (allB l) _ H9.out.two.row H9.out.row (by have := allB_len l; omega)).mono ?_
      rintro e w10 ⟨rfl, nn, rfl⟩
      go_wp2
      go_ret
      have q := (Q4.out.trans Q5.out).alloc (.cells (rcells ⟨ep, ⟨c', n', j', t', k', m'⟩⟩).toArray 44) |>.trans Q6.out |>.alloc (.cells (rcells ⟨ep, ⟨c', n', j', t', k', m'⟩⟩).toArray 44) |>.trans Q7.out |>.trans Q8.out |>.trans Q9.out |>.drewN nn
      exact ⟨rfl, (H9.out.drewN nn).right.right.right.right.right.toBelow q⟩
    · have h0' : (C == 0) = false := by simpa using h0
      have H4 := H3
      rw [if_neg h0] at H4
      have Q4 := Lib.hid ((Q1.out.trans Q2.out).trans Q3.out)
      clear H3
      go_wp2_with fail
      refine (decode_any _ l _ (HV.out.old H4.out.right)).mono ?_
      rw [HD.out]
      rintro e w5 ⟨rfl, hb5⟩
      have H5 := Lib.hid ((H4.out.below hb5).boxB (ty := 44) (cs := rcells ⟨ep, ⟨c', n', j', t', k', m'⟩⟩) rfl); have Q5 := Lib.hid (Quiet.below hb5); clear hb5 x0 l0
      go_wp2_with fail
      refine (recof_any _ l _ (HV.out.old H5.out.right.right)).mono ?_
      rw [HD.out]
      rintro e w6 ⟨rfl, hb6⟩
      have H6 := Lib.hid ((H5.out.below hb6).boxB (ty := 44) (cs := rcells ⟨ep, ⟨c', n', j', t', k', m'⟩⟩) rfl); have Q6 := Lib.hid (Quiet.below hb6)
      have x0 := (H5.out.below hb6).right.right.bl.cells
      have l0 := (H5.out.below hb6).right.right.bl.lt
      simp only [rcells] at x0
      clear hb6
      go_wp2_with fail
      refine (ccheck_any p c n j t k m _).mono ?_
      rw [HC.out]
      rintro e w7 ⟨rfl, hb7⟩
      have h7 := H6.out.below hb7
      have Q7 := Lib.hid (Quiet.below hb7); clear hb7 x0 l0
      have x6 := h7.bl.cells
      have l6 := h7.bl.lt
      have x5 := h7.right.bl.cells
      have l5 := h7.right.bl.lt
      have hs := run_string_bytes h7.right.right.ownb.bytes
      rw [show strOf [] = ⟨#[]⟩ from rfl] at hs
      simp only [rcells] at x5 x6
      have H7 := Lib.hid h7; clear h7
      go_wp2_with fail
      refine (all_sl _ l _ (HV.out.old H7.out.right.right.right) (by omega) H7.out).mono ?_
      rintro e w8 ⟨v8, rfl, q8, h8⟩
      have H8 := Lib.hid h8; have Q8 := Lib.hid q8; clear h8 q8
      go_wp2_with fail
      refine (recsof_sl _ l _ (HV.out.old H8.out.right.right.right.right) (by omega) H8.out).mono ?_
      rintro e w9 ⟨v9, rfl, q9, h9⟩
      have H9 := Lib.hid h9; have Q9 := Lib.hid q9; clear h9 q9
      go_wp2_with fail
      refine (same_recs _ _ (allB l) _ H9.out.two.row H9.out.row (by have := allB_len l; omega)).mono ?_
      rintro e w10 ⟨rfl, nn, rfl⟩
      go_wp2
      go_ret
      have q := (Q4.out.trans Q5.out).alloc (.cells (rcells ⟨ep, ⟨c', n', j', t', k', m'⟩⟩).toArray 44) |>.trans Q6.out |>.alloc (.cells (rcells ⟨ep, ⟨c', n', j', t', k', m'⟩⟩).toArray 44) |>.trans Q7.out |>.trans Q8.out |>.trans Q9.out |>.drewN nn
      exact ⟨rfl, (H9.out.drewN nn).right.right.right.right.right.toBelow q⟩
end Go.Proofs.Ytfihmpkkpgmdhaa
