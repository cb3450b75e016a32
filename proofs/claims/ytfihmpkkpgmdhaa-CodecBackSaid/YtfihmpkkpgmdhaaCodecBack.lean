/-
  CodecBack, walked: there and back.
-/
import Derived.Test.YtfihmpkkpgmdhaaCodecS
import Derived.Test.YtfihmpkkpgmdhaaPlain7
import Derived.Test.YtfihmpkkpgmdhaaLex
namespace Go.Proofs.Ytfihmpkkpgmdhaa
set_option linter.unusedSimpArgs false
set_option linter.unusedVariables false
open Go.RowKit
/-- What is told behind the first part. -/
structure Back (w W : World) (r : Rec) (R : HP) : Prop where
  q : Quiet w W
  h : Holds W (R * old w)
set_option maxRecDepth 100000 in
set_option maxHeartbeats 8000000 in
theorem codecBack_any (p c n j t k m : Int) (p' c' n' j' t' k' m' : Int) (v : Value) (l : List UInt8) (w : World) (hv : BytesAt w v l) :
    Calls Try.prog 7 #[.agg #[.int .i64 p, .int .i64 c, .int .i64 n, .int .i64 j, .int .i64 t, .int .i64 k, .int .i64 m], .agg #[.int .i64 p', .int .i64 c', .int .i64 n', .int .i64 j', .int .i64 t', .int .i64 k', .int .i64 m'], v] w fun e w' => e = .returned (.bool true) ∧ Below w.heap.size w w' := by
  obtain ⟨a, cc, rfl, c1, c2⟩ := hv.shape
  have HV := Lib.hid hv; clear hv
  go_enter Try.func7, Try.ntmps7
  go_wp2_with fail
  refine (codecBegun_any _).mono ?_
  rintro e w1 ⟨rfl, hb1⟩
  have H1 := Lib.hid (((Holds.old.boxB (ty := 44) (cs := rcells ⟨p, ⟨c, n, j, t, k, m⟩⟩) rfl).boxB (ty := 44) (cs := rcells ⟨p', ⟨c', n', j', t', k', m'⟩⟩) (g := w.heap.size + 1) (by simp)).below hb1)
  have Q1 := Lib.hid ((((Quiet.refl w).alloc _).alloc _).trans (Quiet.below hb1)); clear hb1
  have x0 := H1.out.right.bl.cells
  have l0 := H1.out.right.bl.lt
  simp only [rcells] at x0
  by_cases hlen : 4000 < l.length
  · go_wp2
    go_ret
    exact ⟨rfl, H1.out.right.toBelow Q1.out⟩
  · obtain ⟨C, hC⟩ : ∃ C, chkR ⟨p, ⟨c, n, j, t, k, m⟩⟩ = C := ⟨_, rfl⟩
    have HC := Lib.hid hC; clear hC
    obtain ⟨E, hE⟩ : ∃ C, chkR ⟨p', ⟨c', n', j', t', k', m'⟩⟩ = C := ⟨_, rfl⟩
    have HE := Lib.hid hE; clear hE
    go_wp2_with fail
    refine (enc_sl p c n j t k m _ H1.out).mono ?_
    rw [HC.out]
    rintro e w2 ⟨v2, rfl, q2, h2⟩
    have x1 := h2.right.bl.cells
    have l1 := h2.right.bl.lt
    simp only [rcells] at x1
    have H2 := Lib.hid h2; have Q2 := Lib.hid q2; clear h2 q2 x0 l0
    go_wp2_with fail
    refine (enc_sl p' c' n' j' t' k' m' _ H2.out).mono ?_
    rw [HE.out]
    rintro e w3 ⟨v3, rfl, q3, h3⟩
    have H3 := Lib.hid h3; have Q3 := Lib.hid q3; clear h3 q3 x1 l1
    by_cases h0 : C = 0
    · subst h0
      obtain ⟨X, hX⟩ : ∃ X, encB ⟨p, ⟨c, n, j, t, k, m⟩⟩ = X := ⟨_, rfl⟩
      have hXl : X.length = 9 := by rw [← hX]; exact encB_len _
      have HX := Lib.hid hX; clear hX
      rw [HX.out] at H3
      have HXL := Lib.hid hXl; clear hXl
      have H3' : Hid (Holds w3 (ownb v2 X * (ownb v3 (if E = 0 then encB ⟨p', ⟨c', n', j', t', k', m'⟩⟩ else []) * (bl (w.heap.size + 1) 44 (rcells ⟨p', ⟨c', n', j', t', k', m'⟩⟩) * (bl w.heap.size 44 (rcells ⟨p, ⟨c, n, j, t, k, m⟩⟩) * old w))))) := by
        have := H3.out
        first | rw [if_pos trivial] at this | rw [if_pos rfl] at this
        exact Lib.hid this.two
      clear H3
      go_wp2_with (first | (at_builtin; refine wpList_append_ob rfl (.const (.slice none 0 0)) (.tmp 35) rfl rfl rfl H3'.out.nilB H3'.out.ownb.bytes (by have := HXL.out; simp; omega) ?_; intro v4 w4 h4 q4; have H4 := Lib.hid h4; have Q4 := Lib.hid q4; clear h4 q4) | (at_builtin; refine wpList_append_ob rfl (.tmp 36) (.tmp 37) rfl rfl rfl H4.out (HV.out.old H4.out.right.right.right.right) (by have := HXL.out; simp; omega) ?_; intro v5 w5 h5 q5; have H5 := Lib.hid h5; have Q5 := Lib.hid q5; clear h5 q5))
      rw [List.nil_append] at H5
      refine (decode_any _ _ _ H5.out.ownb.bytes).mono ?_
      rw [← HX.out, decB_encB HC.out]
      rintro e w6 ⟨rfl, hb6⟩
      have h6 := H5.out.right.below hb6
      have Q6 := Lib.hid (Quiet.below hb6); clear hb6
      obtain ⟨a2, cap2, rfl, hc21, hc22⟩ := h6.ownb.bytes.shape
      rw [HXL.out] at h6 hc21 ⊢
      have x11 := (h6.boxB (ty := 44) (cs := rcells ⟨p, ⟨c, n, j, t, k, m⟩⟩) rfl)
      have hS1 := run_string_bytes (x11.right.ownb.bytes.row.drew.bytes)
      have hS2 := run_string_bytes (x11.right.right.ownb.bytes.row.drew.bytes)
      have b11 := x11.drew.bl.cells
      have b1 := x11.drew.right.right.right.bl.cells
      have b0 := x11.drew.right.right.right.right.bl.cells
      simp only [rcells] at b11 b1 b0
      have H6 := Lib.hid x11.right; clear x11 h6
      by_cases hE : E = 0
      · subst hE
        obtain ⟨Y, hY⟩ : ∃ Y, encB ⟨p', ⟨c', n', j', t', k', m'⟩⟩ = Y := ⟨_, rfl⟩
        have HY := Lib.hid hY; clear hY
        rw [HY.out] at hS2
        have hif : (if (0 : Int) = 0 then Y else []) = Y := by simp
        first | rw [hif] at hS2 | rw [if_pos trivial] at hS2
        clear hif
        have HB := Lib.hid (And.intro b11 (And.intro b1 (And.intro b0 (And.intro hS1 hS2))))
        clear b11 b1 b0 hS1 hS2
        have HK := Lib.hid H6.out.drew.right.right.right.right
        have QK := Lib.hid ((((((((Q1.out.trans Q2.out).trans Q3.out).trans Q4.out).trans Q5.out).trans Q6.out)).alloc (.cells (rcells ⟨p, ⟨c, n, j, t, k, m⟩⟩).toArray 44)).drew)
        obtain ⟨bb, hb1, hb2⟩ : ∃ bb : Bool, ((strOf X).toList == (strOf Y).toList) = bb ∧ (bb = true ↔ (⟨p, ⟨c, n, j, t, k, m⟩⟩ : Rec) = ⟨p', ⟨c', n', j', t', k', m'⟩⟩) := by
          refine ⟨_, rfl, ?_⟩
          rw [beq_iff_eq, ← HX.out, ← HY.out, ByteArray.toList_eq, ByteArray.toList_eq]
          constructor
          · intro e
            exact encB_inj HC.out HE.out (by simpa [strOf] using e)
          · intro e; rw [e]
        have HB2 := Lib.hid hb2; clear hb2
        go_wp2_with fail
        refine wp_region_lex (fun W => (∀ o, W.cell? ⟨w6.heap.size, o, none⟩ = [Value.int .i64 p, .int .i64 c, .int .i64 n, .int .i64 j, .int .i64 t, .int .i64 k, .int .i64 m][o]?) ∧ (∀ o, W.cell? ⟨w.heap.size + 1, o, none⟩ = [Value.int .i64 p', .int .i64 c', .int .i64 n', .int .i64 j', .int .i64 t', .int .i64 k', .int .i64 m'][o]?) ∧ (∀ o, W.cell? ⟨w.heap.size, o, none⟩ = [Value.int .i64 p, .int .i64 c, .int .i64 n, .int .i64 j, .int .i64 t, .int .i64 k, .int .i64 m][o]?) ∧ (convert 28 9 (.slice a2 9 cap2)).run Try.prog W = .ok (.string (strOf X)) W ∧ (convert 28 9 v3).run Try.prog W = .ok (.string (strOf Y)) W) [] (by kernel_rfl) (by kernel_rfl) HB.out ?_
        repeat (first | (refine LexL.none (by rfl) ?_; (try simp only [Act.put, List.setIfInBounds_toArray, List.set_cons_zero, List.set_cons_succ])) | (refine LexL.still (v := ?_) (by rfl) ?_ ?_; rotate_left; (focus (intro W hW; (try dsimp only at hW); go_simp; (try (with_reducible rfl)); done)); (try simp only [Act.put, List.setIfInBounds_toArray, List.set_cons_zero, List.set_cons_succ])))
        refine LexL.still (v := .bool bb) (by rfl) ?_ ?_
        · intro W hW
          have := HB2.out
          cases bb with
          | true =>
            have e := this.1 rfl
            simp only [Rec.mk.injEq, Ord.mk.injEq] at e
            obtain ⟨rfl, rfl, rfl, rfl, rfl, rfl, rfl⟩ := e
            go_simp
          | false =>
            have e : ¬ ((⟨p, ⟨c, n, j, t, k, m⟩⟩ : Rec) = ⟨p', ⟨c', n', j', t', k', m'⟩⟩) := fun e => by have := this.2 e; cases this
            clear this
            have HEE := Lib.hid e; clear e
            go_simp
            intro e0 e1 e2 e3 e4 e5 e6
            subst e0 e1 e2 e3 e4 e5 e6
            exact HEE.out rfl
        try simp only [Act.put, List.setIfInBounds_toArray, List.set_cons_zero, List.set_cons_succ]
        repeat (first | (refine LexL.none (by rfl) ?_; (try simp only [Act.put, List.setIfInBounds_toArray, List.set_cons_zero, List.set_cons_succ])) | (refine LexL.still (v := ?_) (by rfl) ?_ ?_; rotate_left; (focus (intro W hW; (try dsimp only at hW); go_simp; (try (with_reducible rfl)); done)); (try simp only [Act.put, List.setIfInBounds_toArray, List.set_cons_zero, List.set_cons_succ])))
        refine LexL.done ?_
        go_wp2_with fail
        refine (decode_any _ l _ (HV.out.to HK.out.block)).mono ?_
        obtain ⟨D, hD⟩ : ∃ D, decB l = D := ⟨_, rfl⟩
        rw [hD]
        obtain ⟨⟨ep, ⟨c'', n'', j'', t'', k'', m''⟩⟩, code⟩ := D
        rintro e w8 ⟨rfl, hb8⟩
        have h8 := ((HK.out.below hb8).boxB (ty := 44) (cs := rcells ⟨ep, ⟨c'', n'', j'', t'', k'', m''⟩⟩) rfl)
        have Q8 := Lib.hid (QK.out.trans (Quiet.below hb8)); clear hb8
        by_cases hcode : code = 0
        · subst hcode
          obtain ⟨z1, z2⟩ := encB_decB (l := l) (by rw [hD])
          have h9 := decB_len (l := l) (by rw [hD])
          rw [hD] at z1 z2
          dsimp only at z1 z2
          obtain ⟨gg, off, c9, e9, _, _, _⟩ := HV.out.row.get (by omega)
          simp only [Value.slice.injEq] at e9
          obtain ⟨rfl, _, rfl⟩ := e9
          have H8 := Lib.hid h8; have Z1 := Lib.hid z1; have Z2 := Lib.hid z2; clear h8 z1 z2 hD
          have c99 : 9 ≤ cc := by omega
          have c98 : (9 : Int) ≤ (cc : Int) := by omega
          have c97 : (9 : Int) ≤ (l.length : Int) := by omega
          go_wp2_with fail
          refine (enc_sl ep c'' n'' j'' t'' k'' m'' _ H8.out).mono ?_
          rw [Z1.out, Z2.out]
          rintro e w9 ⟨v9, rfl, q9, h9'⟩
          simp only [if_true] at h9'
          have hS1 := run_string_bytes h9'.ownb.bytes.row.drew.bytes
          have hS2 := run_string_bytes (((HV.out.take (q := 9) (by omega)).to h9'.right.right.block).row.drew.bytes)
          have HB9 := Lib.hid (And.intro hS1 hS2)
          have H9 := Lib.hid h9'; have Q9 := Lib.hid q9; clear h9' q9 hS1 hS2
          go_wp2_with fail
          refine wp_region_lex (fun W => (convert 28 9 v9).run Try.prog W = .ok (.string (strOf (l.take 9))) W ∧ (convert 28 9 (.slice (some ⟨gg, off, none⟩) 9 cc)).run Try.prog W = .ok (.string (strOf (l.take 9))) W) [] (by kernel_rfl) (by kernel_rfl) HB9.out ?_
          repeat (first | (refine LexL.none (by rfl) ?_; (try simp only [Act.put, List.setIfInBounds_toArray, List.set_cons_zero, List.set_cons_succ])) | (refine LexL.still (v := ?_) (by rfl) ?_ ?_; rotate_left; (focus (intro W hW; (try dsimp only at hW); go_simp; (try (with_reducible rfl)); done)); (try simp only [Act.put, List.setIfInBounds_toArray, List.set_cons_zero, List.set_cons_succ])))
          refine LexL.done ?_
          go_wp2
          go_ret
          exact ⟨rfl, H9.out.drew.right.right.toBelow' (((Q8.out.alloc _).trans Q9.out).drew)⟩
        · have hcode' : (code != 0) = true := by simpa using hcode
          have hz := decB_code (l := l) (by rw [hD]; exact hcode)
          rw [hD] at hz
          simp only [Rec.zero, Ord.zero, Rec.mk.injEq, Ord.mk.injEq] at hz
          obtain ⟨rfl, rfl, rfl, rfl, rfl, rfl, rfl⟩ := hz
          have H8 := Lib.hid h8; clear h8 hD hcode
          go_wp2
          go_ret
          exact ⟨rfl, H8.out.right.toBelow' (Q8.out.alloc _)⟩
      · have hE' : (E == 0) = false := by simpa using hE
        clear hS2
        have HB := Lib.hid (And.intro b11 b0)
        clear b11 b1 b0 hS1
        have HK := Lib.hid H6.out.drew.right.right.right.right
        have QK := Lib.hid ((((((((Q1.out.trans Q2.out).trans Q3.out).trans Q4.out).trans Q5.out).trans Q6.out)).alloc (.cells (rcells ⟨p, ⟨c, n, j, t, k, m⟩⟩).toArray 44)).drew)
        clear hE
        go_wp2_with fail
        refine wp_region_lex (fun W => (∀ o, W.cell? ⟨w6.heap.size, o, none⟩ = [Value.int .i64 p, .int .i64 c, .int .i64 n, .int .i64 j, .int .i64 t, .int .i64 k, .int .i64 m][o]?) ∧ (∀ o, W.cell? ⟨w.heap.size, o, none⟩ = [Value.int .i64 p, .int .i64 c, .int .i64 n, .int .i64 j, .int .i64 t, .int .i64 k, .int .i64 m][o]?)) [] (by kernel_rfl) (by kernel_rfl) HB.out ?_
        repeat (first | (refine LexL.none (by rfl) ?_; (try simp only [Act.put, List.setIfInBounds_toArray, List.set_cons_zero, List.set_cons_succ])) | (refine LexL.still (v := ?_) (by rfl) ?_ ?_; rotate_left; (focus (intro W hW; (try dsimp only at hW); go_simp; (try (with_reducible rfl)); done)); (try simp only [Act.put, List.setIfInBounds_toArray, List.set_cons_zero, List.set_cons_succ])))
        refine LexL.done ?_
        go_wp2_with fail
        refine (decode_any _ l _ (HV.out.to HK.out.block)).mono ?_
        obtain ⟨D, hD⟩ : ∃ D, decB l = D := ⟨_, rfl⟩
        rw [hD]
        obtain ⟨⟨ep, ⟨c'', n'', j'', t'', k'', m''⟩⟩, code⟩ := D
        rintro e w8 ⟨rfl, hb8⟩
        have h8 := ((HK.out.below hb8).boxB (ty := 44) (cs := rcells ⟨ep, ⟨c'', n'', j'', t'', k'', m''⟩⟩) rfl)
        have Q8 := Lib.hid (QK.out.trans (Quiet.below hb8)); clear hb8
        by_cases hcode : code = 0
        · subst hcode
          obtain ⟨z1, z2⟩ := encB_decB (l := l) (by rw [hD])
          have h9 := decB_len (l := l) (by rw [hD])
          rw [hD] at z1 z2
          dsimp only at z1 z2
          obtain ⟨gg, off, c9, e9, _, _, _⟩ := HV.out.row.get (by omega)
          simp only [Value.slice.injEq] at e9
          obtain ⟨rfl, _, rfl⟩ := e9
          have H8 := Lib.hid h8; have Z1 := Lib.hid z1; have Z2 := Lib.hid z2; clear h8 z1 z2 hD
          have c99 : 9 ≤ cc := by omega
          have c98 : (9 : Int) ≤ (cc : Int) := by omega
          have c97 : (9 : Int) ≤ (l.length : Int) := by omega
          go_wp2_with fail
          refine (enc_sl ep c'' n'' j'' t'' k'' m'' _ H8.out).mono ?_
          rw [Z1.out, Z2.out]
          rintro e w9 ⟨v9, rfl, q9, h9'⟩
          simp only [if_true] at h9'
          have hS1 := run_string_bytes h9'.ownb.bytes.row.drew.bytes
          have hS2 := run_string_bytes (((HV.out.take (q := 9) (by omega)).to h9'.right.right.block).row.drew.bytes)
          have HB9 := Lib.hid (And.intro hS1 hS2)
          have H9 := Lib.hid h9'; have Q9 := Lib.hid q9; clear h9' q9 hS1 hS2
          go_wp2_with fail
          refine wp_region_lex (fun W => (convert 28 9 v9).run Try.prog W = .ok (.string (strOf (l.take 9))) W ∧ (convert 28 9 (.slice (some ⟨gg, off, none⟩) 9 cc)).run Try.prog W = .ok (.string (strOf (l.take 9))) W) [] (by kernel_rfl) (by kernel_rfl) HB9.out ?_
          repeat (first | (refine LexL.none (by rfl) ?_; (try simp only [Act.put, List.setIfInBounds_toArray, List.set_cons_zero, List.set_cons_succ])) | (refine LexL.still (v := ?_) (by rfl) ?_ ?_; rotate_left; (focus (intro W hW; (try dsimp only at hW); go_simp; (try (with_reducible rfl)); done)); (try simp only [Act.put, List.setIfInBounds_toArray, List.set_cons_zero, List.set_cons_succ])))
          refine LexL.done ?_
          go_wp2
          go_ret
          exact ⟨rfl, H9.out.drew.right.right.toBelow' (((Q8.out.alloc _).trans Q9.out).drew)⟩
        · have hcode' : (code != 0) = true := by simpa using hcode
          have hz := decB_code (l := l) (by rw [hD]; exact hcode)
          rw [hD] at hz
          simp only [Rec.zero, Ord.zero, Rec.mk.injEq, Ord.mk.injEq] at hz
          obtain ⟨rfl, rfl, rfl, rfl, rfl, rfl, rfl⟩ := hz
          have H8 := Lib.hid h8; clear h8 hD hcode
          go_wp2
          go_ret
          exact ⟨rfl, H8.out.right.toBelow' (Q8.out.alloc _)⟩
    · have h0' : (C == 0) = false := by simpa using h0
      have HK := Lib.hid H3.out.right.right.right.right
      have QK := Lib.hid ((Q1.out.trans Q2.out).trans Q3.out)
      clear h0 H3
      go_wp2_with fail
      refine (decode_any _ l _ (HV.out.to HK.out.block)).mono ?_
      obtain ⟨D, hD⟩ : ∃ D, decB l = D := ⟨_, rfl⟩
      rw [hD]
      obtain ⟨⟨ep, ⟨c'', n'', j'', t'', k'', m''⟩⟩, code⟩ := D
      rintro e w8 ⟨rfl, hb8⟩
      have h8 := ((HK.out.below hb8).boxB (ty := 44) (cs := rcells ⟨ep, ⟨c'', n'', j'', t'', k'', m''⟩⟩) rfl)
      have Q8 := Lib.hid (QK.out.trans (Quiet.below hb8)); clear hb8
      by_cases hcode : code = 0
      · subst hcode
        obtain ⟨z1, z2⟩ := encB_decB (l := l) (by rw [hD])
        have h9 := decB_len (l := l) (by rw [hD])
        rw [hD] at z1 z2
        dsimp only at z1 z2
        obtain ⟨gg, off, c9, e9, _, _, _⟩ := HV.out.row.get (by omega)
        simp only [Value.slice.injEq] at e9
        obtain ⟨rfl, _, rfl⟩ := e9
        have H8 := Lib.hid h8; have Z1 := Lib.hid z1; have Z2 := Lib.hid z2; clear h8 z1 z2 hD
        have c99 : 9 ≤ cc := by omega
        have c98 : (9 : Int) ≤ (cc : Int) := by omega
        have c97 : (9 : Int) ≤ (l.length : Int) := by omega
        go_wp2_with fail
        refine (enc_sl ep c'' n'' j'' t'' k'' m'' _ H8.out).mono ?_
        rw [Z1.out, Z2.out]
        rintro e w9 ⟨v9, rfl, q9, h9'⟩
        simp only [if_true] at h9'
        have hS1 := run_string_bytes h9'.ownb.bytes.row.drew.bytes
        have hS2 := run_string_bytes (((HV.out.take (q := 9) (by omega)).to h9'.right.right.block).row.drew.bytes)
        have HB9 := Lib.hid (And.intro hS1 hS2)
        have H9 := Lib.hid h9'; have Q9 := Lib.hid q9; clear h9' q9 hS1 hS2
        go_wp2_with fail
        refine wp_region_lex (fun W => (convert 28 9 v9).run Try.prog W = .ok (.string (strOf (l.take 9))) W ∧ (convert 28 9 (.slice (some ⟨gg, off, none⟩) 9 cc)).run Try.prog W = .ok (.string (strOf (l.take 9))) W) [] (by kernel_rfl) (by kernel_rfl) HB9.out ?_
        repeat (first | (refine LexL.none (by rfl) ?_; (try simp only [Act.put, List.setIfInBounds_toArray, List.set_cons_zero, List.set_cons_succ])) | (refine LexL.still (v := ?_) (by rfl) ?_ ?_; rotate_left; (focus (intro W hW; (try dsimp only at hW); go_simp; (try (with_reducible rfl)); done)); (try simp only [Act.put, List.setIfInBounds_toArray, List.set_cons_zero, List.set_cons_succ])))
        refine LexL.done ?_
        go_wp2
        go_ret
        exact ⟨rfl, H9.out.drew.right.right.toBelow' (((Q8.out.alloc _).trans Q9.out).drew)⟩
      · have hcode' : (code != 0) = true := by simpa using hcode
        have hz := decB_code (l := l) (by rw [hD]; exact hcode)
        rw [hD] at hz
        simp only [Rec.zero, Ord.zero, Rec.mk.injEq, Ord.mk.injEq] at hz
        obtain ⟨rfl, rfl, rfl, rfl, rfl, rfl, rfl⟩ := hz
        have H8 := Lib.hid h8; clear h8 hD hcode
        go_wp2
        go_ret
        exact ⟨rfl, H8.out.right.toBelow' (Q8.out.alloc _)⟩
end Go.Proofs.Ytfihmpkkpgmdhaa
