/-
  The story laws' beginning, walked.
-/
import Derived.Test.YtfihmpkkpgmdhabStoryD
namespace Go.Proofs.Ytfihmpkkpgmdhab
set_option linter.unusedSimpArgs false
set_option linter.unusedVariables false
open Go.RowKit
def sr1 : Rec := ⟨1, ⟨1, 0, 2, 0, 0, 0⟩⟩
def sr2 : Rec := ⟨1, ⟨2, 0, 0, 0, 3, 4⟩⟩
theorem sr1_ok : chkR sr1 = 0 := rfl
theorem sr2_ok : chkR sr2 = 0 := rfl
theorem sr_all : allB (encB sr1 ++ encB sr2) = [sr1, sr2] := by
  have := allB_encAll (l := [sr1, sr2]) ⟨sr1_ok, by decide, sr2_ok, by decide, trivial⟩ [] (by simp)
  rw [show encAll [sr1, sr2] = encB sr1 ++ encB sr2 from by simp [encAll]] at this
  simpa using this
def sev1 : Ev := ⟨sr1, ⟨0, 0, 0⟩, ⟨1, 0, 0, 0⟩⟩
def sev2 : Ev := ⟨sr2, ⟨0, 2, 1⟩, ⟨2, 3, 1, 4⟩⟩
theorem sr_evs : evs Tbl.zero [sr1, sr2] = [sev1, sev2] := by
  have e1 : evOf Tbl.zero sr1 = sev1 := by kernel_rfl
  have e2 : evOf (Tbl.zero.did sr1.o).1 sr2 = sev2 := by kernel_rfl
  simp only [evs, e1, e2]
theorem sr_hold : holders [sev1, sev2] 2 = [(3, 1)] := by kernel_rfl
theorem sr_job : (behind ([sr1, sr2].take 1)).job 2 = ⟨1, 0, 0, 0⟩ := by kernel_rfl
set_option maxRecDepth 100000 in
set_option maxHeartbeats 8000000 in
theorem storyBegun_any (w : World) : Calls Try.prog 23 #[] w fun e w' => e = .returned (.bool true) ∧ Below w.heap.size w w' := by
  have hfld0 : ∀ (a b c d : Value) (W : World), (Instr.field 27 (.agg #[a, b, c, d]) 0).run Try.prog W = .ok a W := fun a b c d W => by kernel_rfl
  have hpair : ∀ W : World, (Op.equalIn 10000 64 (.agg #[.int .i64 3, .int .i64 1]) (.agg #[.int .i64 3, .int .i64 1])).run Try.prog W = .ok true W := fun W => by kernel_rfl
  go_enter Try.func23, Try.ntmps23
  go_wp2_with fail
  refine (enc_sl 1 1 0 2 0 0 0 _ Holds.old).mono ?_
  rw [show chkR ⟨1, ⟨1, 0, 2, 0, 0, 0⟩⟩ = 0 from rfl, if_pos rfl, show encB ⟨1, ⟨1, 0, 2, 0, 0, 0⟩⟩ = encB sr1 from rfl]
  rintro e w1 ⟨va, rfl, q1, h1⟩
  have H1 := Lib.hid (show Holds w1 (ownb va (encB sr1) * old w) from h1); have Q1 := Lib.hid q1; clear h1 q1
  go_wp2_with fail
  refine (enc_sl 1 2 0 0 0 3 4 _ H1.out).mono ?_
  rw [show chkR ⟨1, ⟨2, 0, 0, 0, 3, 4⟩⟩ = 0 from rfl, if_pos rfl, show encB ⟨1, ⟨2, 0, 0, 0, 3, 4⟩⟩ = encB sr2 from rfl]
  rintro e w2 ⟨vb, rfl, q2, h2⟩
  have H2 := Lib.hid (show Holds w2 (ownb vb (encB sr2) * (ownb va (encB sr1) * old w)) from h2); have Q2 := Lib.hid (Q1.out.trans q2); clear h2 q2
  go_wp2_with (first | (at_builtin; refine wpList_append_ob rfl (.const (.slice none 0 0)) (.tmp 21) rfl rfl rfl H2.out.nilB H2.out.two.ownb.bytes (by rw [encB_len]; decide) ?_; intro v3 w3 h3 q3; have H3 := Lib.hid h3; have Q3 := Lib.hid (Q2.out.trans q3); clear h3 q3) | (at_builtin; refine wpList_append_ob rfl (.tmp 22) (.tmp 23) rfl rfl rfl H3.out H3.out.two.ownb.bytes (by rw [encB_len]; simp [encB_len]) ?_; intro v4 w4 h4 q4; have H4 := Lib.hid h4; have Q4 := Lib.hid (Q3.out.trans q4); clear h4 q4))
  rw [List.nil_append] at H4
  have hlen : (encB sr1 ++ encB sr2).length = 18 := by rw [List.length_append, encB_len, encB_len]
  have HLN := Lib.hid hlen
  refine (of_sl _ _ _ H4.out.ownb.bytes (by omega) H4.out).mono ?_
  rw [sr_all, sr_evs]
  rintro e w5 ⟨v5, rfl, q5, h5⟩
  have H5 := Lib.hid (show Holds w5 (sevs v5 [sev1, sev2] * (ownb v4 (encB sr1 ++ encB sr2) * (ownb vb (encB sr2) * (ownb va (encB sr1) * old w)))) from h5); have Q5 := Lib.hid (Q4.out.trans q5); clear h5 q5
  go_wp2_with fail
  refine (holders_sl _ [sev1, sev2] 2 _ H5.out.row (by simp) H5.out).mono ?_
  rw [sr_hold]
  rintro e w6 ⟨v6, rfl, q6, h6⟩
  have H6 := Lib.hid (show Holds w6 (hold v6 [(3, 1)] * (sevs v5 [sev1, sev2] * (ownb v4 (encB sr1 ++ encB sr2) * (ownb vb (encB sr2) * (ownb va (encB sr1) * old w))))) from h6); have Q6 := Lib.hid (Q5.out.trans q6); clear h6 q6
  go_wp2_with fail
  refine (stable_sl _ (encB sr1 ++ encB sr2) 1 _ H6.out.three.ownb.bytes (by omega) (by rw [sr_all]; simp) H6.out).mono ?_
  rw [sr_all]
  obtain ⟨T, hT⟩ : ∃ T, behind ([sr1, sr2].take 1) = T := ⟨_, rfl⟩
  rw [hT]
  have hj := sr_job
  rw [hT] at hj
  have HJ := Lib.hid hj
  clear hT hj
  rintro e w7 ⟨bt, rfl, q7, h7⟩
  have H7 := Lib.hid (show Holds w7 (tab bt T * (hold v6 [(3, 1)] * (sevs v5 [sev1, sev2] * (ownb v4 (encB sr1 ++ encB sr2) * (ownb vb (encB sr2) * (ownb va (encB sr1) * old w)))))) from h7); have Q7 := Lib.hid (Q6.out.trans q7); clear h7 q7
  obtain ⟨g5, o5, c5, rfl, _, _, cs5⟩ := H7.out.three.row.get (by simp)
  obtain ⟨g6, o6, c6, rfl, _, _, cs6⟩ := H7.out.two.row.get (by simp)
  simp only [List.length_cons, List.length_nil] at *
  have x7 := cs5 (14 + 7) _ rfl
  have x8 := cs5 (14 + 8) _ rfl
  have x9 := cs5 (14 + 9) _ rfl
  have x10 := cs5 (14 + 10) _ rfl
  have x11 := cs5 (14 + 11) _ rfl
  have x12 := cs5 (14 + 12) _ rfl
  have x13 := cs5 (14 + 13) _ rfl
  have p0 := cs6 0 _ rfl
  have p1 := cs6 1 _ rfl
  simp only [sev2, sr2, Nat.add_zero] at x7 x8 x9 x10 x11 x12 x13 p0 p1
  clear cs5 cs6
  go_wp2_with fail
  refine (job_sl bt T 2 _ H7.out).mono ?_
  rw [HJ.out]
  simp only [Job.val, jcells]
  rintro e w8 ⟨rfl, hb8⟩
  have H8 := Lib.hid (H7.out.below hb8); have Q8 := Lib.hid (Q7.out.trans (Quiet.below hb8))
  clear hb8
  go_wp2_with fail
  refine (stable_no _ (encB sr1 ++ encB sr2) 3 _ H8.out.four.ownb.bytes (by omega) (by rw [sr_all]; right; decide) H8.out).mono ?_
  rintro e w9 ⟨rfl, q9, h9⟩
  have H9 := Lib.hid h9; have Q9 := Lib.hid (Q8.out.trans q9)
  clear h9 q9
  go_wp2
  go_ret
  exact ⟨rfl, H9.out.right.right.right.right.right.right.toBelow' Q9.out⟩
end Go.Proofs.Ytfihmpkkpgmdhab
