/-
  The codec's contracts, beside whatever else stands in memory; appends of bytes and of records.
-/
import Derived.Test.YtfihmpkkpgmdhabRecordsOf
import Derived.Test.YtfihmpkkpgmdhabCodec3
import Derived.Test.YtfihmpkkpgmdhabDiskG
namespace Go.Proofs.Ytfihmpkkpgmdhab
set_option maxRecDepth 100000
set_option linter.unusedSimpArgs false
set_option linter.unusedVariables false
open Go.RowKit
def Rec.val (r : Rec) : Value := .agg #[.int .i64 r.ep, .int .i64 r.o.kind, .int .i64 r.o.now, .int .i64 r.o.job, .int .i64 r.o.tr, .int .i64 r.o.wk, .int .i64 r.o.tm]
theorem enc_sl (p c n j t k m : Int) (w : World) {R : HP} (h : Holds w R) :
    Calls Try.prog 56 #[.agg #[.int .i64 p, .int .i64 c, .int .i64 n, .int .i64 j, .int .i64 t, .int .i64 k, .int .i64 m]] w (PostX w R (fun v => .tuple #[v, .int .i64 (chkR ⟨p, ⟨c, n, j, t, k, m⟩⟩)]) fun v => ownb v (if chkR ⟨p, ⟨c, n, j, t, k, m⟩⟩ = 0 then encB ⟨p, ⟨c, n, j, t, k, m⟩⟩ else [])) :=
  (encode_any p c n j t k m w).mono fun e w' ⟨v, he, ho, hb, hf⟩ => ⟨v, he, Quiet.below hb, h.newO hb ho hf⟩
theorem bof_sl (p c n j t k m : Int) (w : World) (h0 : chkR ⟨p, ⟨c, n, j, t, k, m⟩⟩ = 0) {R : HP} (h : Holds w R) :
    Calls Try.prog 85 #[.agg #[.int .i64 p, .int .i64 c, .int .i64 n, .int .i64 j, .int .i64 t, .int .i64 k, .int .i64 m]] w (PostX w R (fun v => v) fun v => ownb v (encB ⟨p, ⟨c, n, j, t, k, m⟩⟩)) :=
  (bytesof_any p c n j t k m w h0).mono fun e w' ⟨v, he, ho, hb, hf⟩ => ⟨v, he, Quiet.below hb, h.newO hb ho hf⟩
theorem all_sl (v : Value) (l : List UInt8) (w : World) (h : BytesAt w v l) (hl : l.length ≤ 100000) {R : HP} (hr : Holds w R) : Calls Try.prog 43 #[v] w (PostX w R (fun v => v) fun v => recs v (allB l)) :=
  (all_any v l w h hl).mono fun e w' ⟨v, he, q, ho⟩ => ⟨v, he, q, ho.frame hr⟩
theorem recsof_sl (v : Value) (l : List UInt8) (w : World) (h : BytesAt w v l) (hl : l.length ≤ 100000) {R : HP} (hr : Holds w R) : Calls Try.prog 27 #[v] w (PostX w R (fun v => v) fun v => recs v (allB l)) :=
  (recsof_any v l w h hl).mono fun e w' ⟨v, he, q, ho⟩ => ⟨v, he, q, ho.frame hr⟩
theorem Holds.nilB {w : World} {A : HP} (h : Holds w A) : Holds w (Go.Proofs.Ytfihmpkkpgmdhab.ownb (.slice none 0 0) [] * A) := by rw [ownb_row]; exact h.nilRow _ _
theorem Holds.nilR {w : World} {A : HP} (h : Holds w A) : Holds w (recs (.slice none 0 0) [] * A) := h.nilRow _ _
theorem BytesAt.shape {w : World} {v : Value} {l : List UInt8} (h : BytesAt w v l) : ∃ a c, v = .slice a l.length c ∧ l.length ≤ c ∧ c ≤ 9223372036854775807 := h.row.shape
theorem BytesAt.nil (w : World) : BytesAt w (.slice none 0 0) [] := ⟨none, 0, rfl, Nat.le_refl _, Nat.zero_le _, fun _ => rfl, fun h => absurd rfl h⟩
theorem BytesAt.box {w : World} {l : List UInt8} {cs : List Value} (hc : cs = bvs l) (hl : l.length ≤ 1000000) {g : Nat} (hg : w.heap.size = g) : BytesAt (w.alloc (.cells cs.toArray 5)) (.slice (some ⟨g, 0, none⟩) l.length l.length) l := by
  subst hc
  exact (RowAt.box (cs := bvs l) hl hg).bytes
/-- append of bytes. -/
theorem wpList_append_ob {w : World} {ops : Array Oper} {rest : List Oper} {o : Oper} {a : Act} {Q : Exit → Act → World → Prop} (hgd : o.guard = none) (s x : Operand)
    (ho : o.op = .call { callee := .builtin .append, args := #[s, x], argTypes := #[44, 44] })
    {v y : Value} {l m : List UInt8} {R : HP} (hs : a.eval s = v) (hx : a.eval x = y) (hv : Holds w (ownb v l * R)) (hy : BytesAt w y m) (hlen : l.length + m.length ≤ 140737488355328)
    (h : ∀ v' w', Holds w' (ownb v' (l ++ m) * R) → Quiet w w' → wpList Try.prog ops Q rest (a.put o.dst v') w') : wpList Try.prog ops Q (o :: rest) a w := by
  obtain ⟨i0, hi, hz0, hz1, hz2⟩ := info_parts Try.infoU8
  rw [ownb_row] at hv
  refine wpList_append_sl hgd s x 44 ho 5 i0 _ 1 1 Try.underlying44 hi hz0 hz1 hz2 rfl (by decide) hs hx hv hy.row (by simp) (bvs_ones m) (by omega) hlen fun v' w' h1 h2 => h v' w' ?_ h2
  rw [ownb_row, bvs_append, List.length_append]
  exact h1
/-- append of one record. -/
theorem wpList_append_recs {w : World} {ops : Array Oper} {rest : List Oper} {o : Oper} {a : Act} {Q : Exit → Act → World → Prop} (hgd : o.guard = none) (s x : Operand)
    (ho : o.op = .call { callee := .builtin .append, args := #[s, x], argTypes := #[56, 56] })
    {v y : Value} {l : List Rec} {r : Rec} {R : HP} (hs : a.eval s = v) (hx : a.eval x = y) (hv : Holds w (recs v l * R)) (hy : RowAt w y 1 (rcells r)) (hlen : l.length ≤ 100000)
    (h : ∀ v' w', Holds w' (recs v' (l ++ [r]) * R) → Quiet w w' → wpList Try.prog ops Q rest (a.put o.dst v') w') : wpList Try.prog ops Q (o :: rest) a w := by
  obtain ⟨i0, hi, hz0, hz1, hz2⟩ := info_parts Try.infoRec
  refine wpList_append_sl hgd s x 56 ho 48 i0 _ 7 56 Try.underlying56 hi hz0 hz1 hz2 rfl (by decide) hs hx hv hy rfl (rcells_ones r) (by omega) (by omega) fun v' w' h1 h2 => h v' w' ?_ h2
  unfold recs
  rw [rvs_append, List.length_append]
  simpa [rvs] using h1

end Go.Proofs.Ytfihmpkkpgmdhab
