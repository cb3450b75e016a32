/-
  The codec's contracts, beside whatever else stands in memory; appends of bytes and of records.
-/
import Derived.Test.YtfihmpkkpgmdhaaRecordsOf
import Derived.Test.YtfihmpkkpgmdhaaCodec3
import Derived.Test.YtfihmpkkpgmdhaaDiskLaw
namespace Go.Proofs.Ytfihmpkkpgmdhaa
set_option linter.unusedSimpArgs false
set_option linter.unusedVariables false
open Go.RowKit
def Rec.val (r : Rec) : Value := .agg #[.int .i64 r.ep, .int .i64 r.o.kind, .int .i64 r.o.now, .int .i64 r.o.job, .int .i64 r.o.tr, .int .i64 r.o.wk, .int .i64 r.o.tm]
theorem enc_sl (p c n j t k m : Int) (w : World) {R : HP} (h : Holds w R) :
    Calls Try.prog 25 #[.agg #[.int .i64 p, .int .i64 c, .int .i64 n, .int .i64 j, .int .i64 t, .int .i64 k, .int .i64 m]] w (PostX w R (fun v => .tuple #[v, .int .i64 (chkR ⟨p, ⟨c, n, j, t, k, m⟩⟩)]) fun v => ownb v (if chkR ⟨p, ⟨c, n, j, t, k, m⟩⟩ = 0 then encB ⟨p, ⟨c, n, j, t, k, m⟩⟩ else [])) :=
  (encode_any p c n j t k m w).mono fun e w' ⟨v, he, ho, hb, hf⟩ => ⟨v, he, Quiet.below hb, h.newO hb ho hf⟩
theorem bof_sl (p c n j t k m : Int) (w : World) (h0 : chkR ⟨p, ⟨c, n, j, t, k, m⟩⟩ = 0) {R : HP} (h : Holds w R) :
    Calls Try.prog 27 #[.agg #[.int .i64 p, .int .i64 c, .int .i64 n, .int .i64 j, .int .i64 t, .int .i64 k, .int .i64 m]] w (PostX w R (fun v => v) fun v => ownb v (encB ⟨p, ⟨c, n, j, t, k, m⟩⟩)) :=
  (bytesof_any p c n j t k m w h0).mono fun e w' ⟨v, he, ho, hb, hf⟩ => ⟨v, he, Quiet.below hb, h.newO hb ho hf⟩
theorem all_sl (v : Value) (l : List UInt8) (w : World) (h : BytesAt w v l) (hl : l.length ≤ 100000) {R : HP} (hr : Holds w R) : Calls Try.prog 32 #[v] w (PostX w R (fun v => v) fun v => recs v (allB l)) :=
  (all_any v l w h hl).mono fun e w' ⟨v, he, q, ho⟩ => ⟨v, he, q, ho.frame hr⟩
theorem recsof_sl (v : Value) (l : List UInt8) (w : World) (h : BytesAt w v l) (hl : l.length ≤ 100000) {R : HP} (hr : Holds w R) : Calls Try.prog 33 #[v] w (PostX w R (fun v => v) fun v => recs v (allB l)) :=
  (recsof_any v l w h hl).mono fun e w' ⟨v, he, q, ho⟩ => ⟨v, he, q, ho.frame hr⟩
theorem Holds.nilB {w : World} {A : HP} (h : Holds w A) : Holds w (Go.Proofs.Ytfihmpkkpgmdhaa.ownb (.slice none 0 0) [] * A) := by rw [ownb_row]; exact h.nilRow _ _
theorem Holds.nilR {w : World} {A : HP} (h : Holds w A) : Holds w (recs (.slice none 0 0) [] * A) := h.nilRow _ _
theorem BytesAt.shape {w : World} {v : Value} {l : List UInt8} (h : BytesAt w v l) : ∃ a c, v = .slice a l.length c ∧ l.length ≤ c ∧ c ≤ 9223372036854775807 := h.row.shape
theorem BytesAt.nil (w : World) : BytesAt w (.slice none 0 0) [] := ⟨none, 0, rfl, Nat.le_refl _, Nat.zero_le _, fun _ => rfl, fun h => absurd rfl h⟩
theorem BytesAt.box {w : World} {l : List UInt8} {cs : List Value} (hc : cs = bvs l) (hl : l.length ≤ 1000000) {g : Nat} (hg : w.heap.size = g) : BytesAt (w.alloc (.cells cs.toArray 5)) (.slice (some ⟨g, 0, none⟩) l.length l.length) l := by
  subst hc
  exact (RowAt.box (cs := bvs l) hl hg).bytes
/-- append of bytes. -/
theorem wpList_append_ob {w : World} {ops : Array Oper} {rest : List Oper} {o : Oper} {a : Act} {Q : Exit → Act → World → Prop} (hgd : o.guard = none) (s x : Operand)
    (ho : o.op = .call { callee := .builtin .append, args := #[s, x], argTypes := #[28, 28] })
    {v y : Value} {l m : List UInt8} {R : HP} (hs : a.eval s = v) (hx : a.eval x = y) (hv : Holds w (ownb v l * R)) (hy : BytesAt w y m) (hlen : l.length + m.length ≤ 140737488355328)
    (h : ∀ v' w', Holds w' (ownb v' (l ++ m) * R) → Quiet w w' → wpList Try.prog ops Q rest (a.put o.dst v') w') : wpList Try.prog ops Q (o :: rest) a w := by
  obtain ⟨i0, hi, hz0, hz1, hz2⟩ := info_parts Try.infoU8
  rw [ownb_row] at hv
  refine wpList_append_sl hgd s x 28 ho 5 i0 _ 1 1 Try.underlying28 hi hz0 hz1 hz2 rfl (by decide) hs hx hv hy.row (by simp) (bvs_ones m) (by omega) hlen fun v' w' h1 h2 => h v' w' ?_ h2
  rw [ownb_row, bvs_append, List.length_append]
  exact h1
/-- append of one record. -/
theorem wpList_append_recs {w : World} {ops : Array Oper} {rest : List Oper} {o : Oper} {a : Act} {Q : Exit → Act → World → Prop} (hgd : o.guard = none) (s x : Operand)
    (ho : o.op = .call { callee := .builtin .append, args := #[s, x], argTypes := #[52, 52] })
    {v y : Value} {l : List Rec} {r : Rec} {R : HP} (hs : a.eval s = v) (hx : a.eval x = y) (hv : Holds w (recs v l * R)) (hy : RowAt w y 1 (rcells r)) (hlen : l.length ≤ 100000)
    (h : ∀ v' w', Holds w' (recs v' (l ++ [r]) * R) → Quiet w w' → wpList Try.prog ops Q rest (a.put o.dst v') w') : wpList Try.prog ops Q (o :: rest) a w := by
  obtain ⟨i0, hi, hz0, hz1, hz2⟩ := info_parts Try.infoRec
  refine wpList_append_sl hgd s x 52 ho 44 i0 _ 7 56 Try.underlying52 hi hz0 hz1 hz2 rfl (by decide) hs hx hv hy rfl (rcells_ones r) (by omega) (by omega) fun v' w' h1 h2 => h v' w' ?_ h2
  unfold recs
  rw [rvs_append, List.length_append]
  simpa [rvs] using h1

def r0 : Rec := ⟨3, ⟨2, 258, 0, 0, 1, 7⟩⟩
theorem r0_ok : chkR r0 = 0 := rfl
theorem r0_enc : encB r0 = [3, 2, 1, 2, 0, 0, 1, 7, 82] := by decide +kernel
theorem r0_dec : decB ([3, 2, 1, 2, 0, 0, 1, 7, 82] ++ [9]) = (r0, 0) := by rw [← r0_enc]; exact decB_encB r0_ok _
theorem r0_all : allB ([3, 2, 1, 2, 0, 0, 1, 7, 82] ++ [3, 2, 1, 2, 0, 0, 1, 7, 82]) = [r0, r0] := by
  have := allB_encAll (l := [r0, r0]) ⟨r0_ok, by decide, r0_ok, by decide, trivial⟩ [] (by simp)
  rw [show encAll [r0, r0] = encB r0 ++ encB r0 from by simp [encAll], r0_enc] at this
  simpa using this
set_option maxRecDepth 100000 in
set_option maxHeartbeats 4000000 in
theorem codecBegun_any (w : World) : Calls Try.prog 24 #[] w fun e w' => e = .returned (.bool true) ∧ Below w.heap.size w w' := by
  go_enter Try.func24, Try.ntmps24
  go_wp2_with fail
  refine (enc_sl 3 2 258 0 0 1 7 _ (Holds.old.boxB (ty := 44) (cs := rcells r0) rfl)).mono ?_
  rw [show chkR ⟨3, ⟨2, 258, 0, 0, 1, 7⟩⟩ = 0 from rfl, if_pos rfl, show encB ⟨3, ⟨2, 258, 0, 0, 1, 7⟩⟩ = _ from r0_enc]
  rintro e w1 ⟨v, rfl, q1, h1⟩
  have H1 := Lib.hid h1; have Q1 := Lib.hid q1; clear h1 q1
  go_wp2_with (first | (at_builtin; refine wpList_append_ob rfl (.const (.slice none 0 0)) (.tmp 17) rfl rfl rfl H1.out.nilB H1.out.ownb.bytes (by simp) ?_; intro v2 w2 h2 q2; have H2 := Lib.hid h2; have Q2 := Lib.hid q2; clear h2 q2) | (at_builtin; refine wpList_append_ob rfl (.tmp 18) (.tmp 19) rfl rfl rfl (H2.out.alloc _) (BytesAt.box (l := [9]) (cs := [.int .u8 9]) rfl (by simp) rfl) (by simp) ?_; intro v3 w3 h3 q3; have H3 := Lib.hid h3; have Q3 := Lib.hid q3; clear h3 q3))
  rw [List.nil_append] at H3
  refine (decode_any _ _ _ H3.out.ownb.bytes).mono ?_
  rw [r0_dec]
  rintro e w4 ⟨rfl, hb4⟩
  have H4 := Lib.hid ((H3.out.right.below hb4).boxB (ty := 44) (cs := rcells r0) rfl); have Q4 := Lib.hid (Quiet.below hb4); clear hb4
  go_wp2_with fail
  refine (decode_any _ [] _ (BytesAt.nil _)).mono ?_
  rw [show decB [] = (Rec.zero, 7) from rfl]
  rintro e w5 ⟨rfl, hb5⟩
  have H5 := Lib.hid ((H4.out.below hb5).alloc (.cells (rcells Rec.zero).toArray 44)); have Q5 := Lib.hid (Quiet.below hb5); clear hb5
  simp only [Rec.zero, Ord.zero]
  go_wp2_with (first | (at_builtin; refine wpList_append_ob rfl (.const (.slice none 0 0)) (.tmp 28) rfl rfl rfl H5.out.nilB H5.out.two.ownb.bytes (by simp) ?_; intro v6 w6 h6 q6; have H6 := Lib.hid h6; have Q6 := Lib.hid q6; clear h6 q6) | (at_builtin; refine wpList_append_ob rfl (.tmp 29) (.tmp 30) rfl rfl rfl H6.out H6.out.three.ownb.bytes (by simp) ?_; intro v7 w7 h7 q7; have H7 := Lib.hid h7; have Q7 := Lib.hid q7; clear h7 q7))
  rw [List.nil_append] at H7
  refine (all_sl _ _ _ H7.out.ownb.bytes (by simp) H7.out).mono ?_
  rw [r0_all]
  rintro e w8 ⟨v8, rfl, q8, h8⟩
  obtain ⟨a8, c8, rfl, _⟩ := h8.row.shape
  simp only [List.length_cons, List.length_nil] at *
  have x4 := h8.right.right.bl.cells
  have x1 := h8.right.right.right.right.bl.cells
  have l4 := h8.right.right.bl.lt
  have l1 := h8.right.right.right.right.bl.lt
  have hs := run_string_bytes h8.right.right.right.ownb.bytes
  rw [show strOf [3, 2, 1, 2, 0, 0, 1, 7, 82] = ⟨#[3, 2, 1, 2, 0, 0, 1, 7, 82]⟩ from rfl] at hs
  simp only [rcells, r0] at x4 x1
  have H8 := Lib.hid h8; have Q8 := Lib.hid q8; clear h8 q8
  go_wp2
  go_ret
  have q := (((Quiet.refl w).alloc (.cells (rcells r0).toArray 44)).trans Q1.out).trans Q2.out |>.alloc (.cells #[.int .u8 9] 5) |>.trans Q3.out |>.trans Q4.out |>.alloc (.cells (rcells r0).toArray 44) |>.trans Q5.out |>.alloc (.cells (rcells Rec.zero).toArray 44) |>.trans Q6.out |>.trans Q7.out |>.trans Q8.out
  exact ⟨rfl, H8.out.right.right.right.right.toBelow q⟩
end Go.Proofs.Ytfihmpkkpgmdhaa
