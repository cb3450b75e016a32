/-
  What the laws on tables of jobs share: contracts beside whatever else stands in memory; the law's beginning; the orders that come in.
-/
import Derived.Test.YtfihmpkkpgmdhaaBoard1
namespace Go.Proofs.Ytfihmpkkpgmdhaa
set_option linter.unusedSimpArgs false
set_option linter.unusedVariables false
open Go.RowKit
/-- A table of the program's. -/
def tab (b : Nat) (t : Tbl) : HP := tb b 84 t
theorem Holds.tab {w : World} {b : Nat} {t : Tbl} {A : HP} (h : Holds w (tab b t * A)) : TableAt w b t := h.bl
theorem do_sl (b : Nat) (t : Tbl) (c n j r k m : Int) (w : World) {R : HP} (h : Holds w (tab b t * R)) (hok : t.Ok) :
    Calls Try.prog 37 #[.pointer (some ⟨b, 0, none⟩), .agg #[.int .i64 c, .int .i64 n, .int .i64 j, .int .i64 r, .int .i64 k, .int .i64 m]] w
      (Post w R (.agg #[.int .i64 (t.did ⟨c, n, j, r, k, m⟩).2.code, .int .i64 (t.did ⟨c, n, j, r, k, m⟩).2.job, .int .i64 (t.did ⟨c, n, j, r, k, m⟩).2.tr]) (tab b (t.did ⟨c, n, j, r, k, m⟩).1)) :=
  (do_any b t c n j r k m w h.tab hok).mono fun e w' ⟨he, hg, ht⟩ => ⟨he, Quiet.grown hg, Holds.grown h hg ht⟩
theorem new_sl (w : World) {R : HP} (h : Holds w R) : Calls Try.prog 35 #[] w (PostX w R (fun b : Nat => .pointer (some ⟨b, 0, none⟩)) fun b => tab b Tbl.zero) :=
  (new_any w).mono fun e w' ⟨b, he, hl, hb, ht⟩ => ⟨b, he, Quiet.below hb, h.newB hb ht hl⟩
theorem own_sl (b : Nat) (t : Tbl) (w : World) {R : HP} (h : Holds w (tab b t * R)) : Calls Try.prog 36 #[.pointer (some ⟨b, 0, none⟩)] w (PostX w (tab b t * R) (fun b : Nat => .pointer (some ⟨b, 0, none⟩)) fun b' => tab b' t) :=
  (own_any b t w h.tab).mono fun e w' ⟨b', he, hl, hb, ht⟩ => ⟨b', he, Quiet.below hb, h.newB hb ht hl⟩
theorem now_sl (b : Nat) (t : Tbl) (w : World) {R : HP} (h : Holds w (tab b t * R)) : Calls Try.prog 43 #[.pointer (some ⟨b, 0, none⟩)] w fun e w' => e = .returned (.int .i64 t.now) ∧ w = w' := now_any b t w h.tab
theorem job_sl (b : Nat) (t : Tbl) (n : Int) (w : World) {R : HP} (h : Holds w (tab b t * R)) : Calls Try.prog 42 #[.pointer (some ⟨b, 0, none⟩), .int .i64 n] w fun e w' => e = .returned (t.job n).val ∧ Below w.heap.size w w' := job_any b t n w h.tab

def zj1 : Tbl := (Tbl.zero.did ⟨1, 0, 2, 0, 0, 0⟩).1
def zj2 : Tbl := (zj1.did ⟨2, 0, 0, 0, 1, 5⟩).1
def zj4 : Tbl := (zj2.did ⟨2, 5, 0, 0, 2, 5⟩).1
def zj6 : Tbl := (zj4.did ⟨4, 6, 2, 2, 2, 0⟩).1
theorem zj1_e : Tbl.zero.did ⟨1, 0, 2, 0, 0, 0⟩ = (zj1, ⟨0, 0, 0⟩) := Prod.ext rfl (by kernel_rfl)
theorem zj2_e : zj1.did ⟨2, 0, 0, 0, 1, 5⟩ = (zj2, ⟨0, 2, 1⟩) := Prod.ext rfl (by kernel_rfl)
theorem zj3_c : (zj2.did ⟨2, 0, 0, 0, 2, 5⟩).2 = ⟨5, 0, 0⟩ := by kernel_rfl
theorem zj3_e : zj2.did ⟨2, 0, 0, 0, 2, 5⟩ = (zj2, ⟨5, 0, 0⟩) := Prod.ext (did_code (by rw [zj3_c]; decide)) zj3_c
theorem zj4_e : zj2.did ⟨2, 5, 0, 0, 2, 5⟩ = (zj4, ⟨0, 2, 2⟩) := Prod.ext rfl (by kernel_rfl)
theorem zj5_c : (zj4.did ⟨4, 5, 2, 1, 1, 0⟩).2 = ⟨6, 0, 0⟩ := by kernel_rfl
theorem zj5_e : zj4.did ⟨4, 5, 2, 1, 1, 0⟩ = (zj4, ⟨6, 0, 0⟩) := Prod.ext (did_code (by rw [zj5_c]; decide)) zj5_c
theorem zj6_e : zj4.did ⟨4, 6, 2, 2, 2, 0⟩ = (zj6, ⟨0, 0, 0⟩) := Prod.ext rfl (by kernel_rfl)
theorem zj6_j : zj6.job 2 = ⟨3, 2, 2, 0⟩ := by kernel_rfl
theorem zj6_n : zj6.now = 6 := by kernel_rfl
theorem zj1_ok : zj1.Ok := did_ok Tbl.zero_ok _
theorem zj2_ok : zj2.Ok := did_ok zj1_ok _
theorem zj4_ok : zj4.Ok := did_ok zj2_ok _
theorem zj6_ok : zj6.Ok := did_ok zj4_ok _

def acells (a : Ans) : List Value := [.int .i64 a.code, .int .i64 a.job, .int .i64 a.tr]
set_option maxRecDepth 100000 in
set_option maxHeartbeats 4000000 in
theorem jobsBegun_any (w : World) : Calls Try.prog 34 #[] w fun e w' => e = .returned (.bool true) ∧ Below w.heap.size w w' := by
  go_enter Try.func34, Try.ntmps34
  go_wp2_with fail
  refine (new_sl _ Holds.old).mono ?_
  rintro e w1 ⟨b, rfl, q1, h1⟩
  have H1 := Lib.hid h1; have Q1 := Lib.hid q1; clear h1 q1
  go_wp2_with fail
  refine (do_sl b _ 1 0 2 0 0 0 _ H1.out Tbl.zero_ok).mono ?_
  rw [zj1_e]
  rintro e w2 ⟨rfl, q2, h2⟩
  have H2 := Lib.hid ((h2.boxB (ty := 68) (cs := acells ⟨0, 0, 0⟩) rfl).two); have Q2 := Lib.hid ((Q1.out.trans q2).alloc (.cells (acells ⟨0, 0, 0⟩).toArray 68)); clear h2 q2 H1 Q1
  dsimp only
  go_wp2_with fail
  refine (do_sl b _ 2 0 0 0 1 5 _ H2.out zj1_ok).mono ?_
  rw [zj2_e]
  rintro e w3 ⟨rfl, q3, h3⟩
  have H3 := Lib.hid ((h3.boxB (ty := 68) (cs := acells ⟨0, 2, 1⟩) rfl).two); have Q3 := Lib.hid ((Q2.out.trans q3).alloc (.cells (acells ⟨0, 2, 1⟩).toArray 68)); clear h3 q3 H2 Q2
  dsimp only
  go_wp2_with fail
  refine (do_sl b _ 2 0 0 0 2 5 _ H3.out zj2_ok).mono ?_
  rw [zj3_e]
  rintro e w4 ⟨rfl, q4, h4⟩
  have H4 := Lib.hid ((h4.boxB (ty := 68) (cs := acells ⟨5, 0, 0⟩) rfl).two); have Q4 := Lib.hid ((Q3.out.trans q4).alloc (.cells (acells ⟨5, 0, 0⟩).toArray 68)); clear h4 q4 H3 Q3
  dsimp only
  go_wp2_with fail
  refine (do_sl b _ 2 5 0 0 2 5 _ H4.out zj2_ok).mono ?_
  rw [zj4_e]
  rintro e w5 ⟨rfl, q5, h5⟩
  have H5 := Lib.hid ((h5.boxB (ty := 68) (cs := acells ⟨0, 2, 2⟩) rfl).two); have Q5 := Lib.hid ((Q4.out.trans q5).alloc (.cells (acells ⟨0, 2, 2⟩).toArray 68)); clear h5 q5 H4 Q4
  dsimp only
  go_wp2_with fail
  refine (do_sl b _ 4 5 2 1 1 0 _ H5.out zj4_ok).mono ?_
  rw [zj5_e]
  rintro e w6 ⟨rfl, q6, h6⟩
  have H6 := Lib.hid ((h6.boxB (ty := 68) (cs := acells ⟨6, 0, 0⟩) rfl).two); have Q6 := Lib.hid ((Q5.out.trans q6).alloc (.cells (acells ⟨6, 0, 0⟩).toArray 68)); clear h6 q6 H5 Q5
  dsimp only
  go_wp2_with fail
  refine (do_sl b _ 4 6 2 2 2 0 _ H6.out zj4_ok).mono ?_
  rw [zj6_e]
  rintro e w7 ⟨rfl, q7, h7⟩
  have H7 := Lib.hid ((h7.boxB (ty := 68) (cs := acells ⟨0, 0, 0⟩) rfl).two); have Q7 := Lib.hid ((Q6.out.trans q7).alloc (.cells (acells ⟨0, 0, 0⟩).toArray 68)); clear h7 q7 H6 Q6
  dsimp only
  go_wp2_with fail
  refine (own_sl b _ _ H7.out).mono ?_
  rintro e w8 ⟨u, rfl, q8, h8⟩
  have y0 := h8.right.right.right.right.right.right.right.bl.cells
  have y1 := h8.right.right.right.right.right.right.bl.cells
  have y2 := h8.right.right.right.right.right.bl.cells
  have y3 := h8.right.right.right.right.bl.cells
  have y4 := h8.right.right.right.bl.cells
  have y5 := h8.right.right.bl.cells
  simp only [acells] at y0 y1 y2 y3 y4 y5
  have H8 := Lib.hid h8; have Q8 := Lib.hid (Q7.out.trans q8); clear h8 q8 H7 Q7
  go_wp2_with fail
  refine (job_sl b _ 2 _ H8.out.two).mono ?_
  rw [zj6_j]
  rintro e w9 ⟨rfl, hb9⟩
  have H9 := Lib.hid (H8.out.below hb9); have Q9 := Lib.hid (Q8.out.trans (Quiet.below hb9)); clear hb9 y0 y1 y2 y3 y4 y5
  simp only [Job.val, jcells]
  go_wp2_with fail
  refine (now_sl b _ _ H9.out.two).mono ?_
  rw [zj6_n]
  rintro e w10 ⟨rfl, rfl⟩
  go_wp2_with fail
  refine (job_sl u _ 2 _ H9.out).mono ?_
  rw [zj6_j]
  rintro e w11 ⟨rfl, hb11⟩
  have H11 := Lib.hid (H9.out.below hb11); have Q11 := Lib.hid (Q9.out.trans (Quiet.below hb11)); clear hb11
  simp only [Job.val, jcells]
  go_wp2_with fail
  refine (job_sl b _ 2 _ H11.out.two).mono ?_
  rw [zj6_j]
  rintro e w12 ⟨rfl, hb12⟩
  have H12 := Lib.hid (H11.out.below hb12); have Q12 := Lib.hid (Q11.out.trans (Quiet.below hb12)); clear hb12
  simp only [Job.val, jcells]
  go_wp2_with fail
  refine (check_any 0 0 0 0 0 0 _).mono ?_
  rw [show chk ⟨0, 0, 0, 0, 0, 0⟩ = 1 from rfl]
  rintro e w13 ⟨rfl, hb13⟩
  have H13 := Lib.hid (H12.out.below hb13); have Q13 := Lib.hid (Q12.out.trans (Quiet.below hb13)); clear hb13
  go_wp2
  go_ret
  exact ⟨rfl, H13.out.right.right.right.right.right.right.right.right.toBelow' Q13.out⟩

/-- The cells of orders. -/
def ovs (l : List Ord) : List Value := l.flatMap ocells
theorem ocells_length (o : Ord) : (ocells o).length = 6 := rfl
theorem ovs_get (l : List Ord) : ∀ (i j : Nat), j < 6 → (ovs l)[i * 6 + j]? = (l[i]?).bind fun r => (ocells r)[j]? := by
  induction l with
  | nil => intro i j _; simp [ovs]
  | cons r l ih =>
    intro i j hj
    have e : ovs (r :: l) = ocells r ++ ovs l := by simp [ovs]
    rw [e]
    cases i with
    | zero => rw [List.getElem?_append_left (by rw [ocells_length]; omega)]; simp
    | succ i =>
      rw [List.getElem?_append_right (by rw [ocells_length]; omega), ocells_length, show (i + 1) * 6 + j - 6 = i * 6 + j by omega, ih i j hj]
      simp
theorem ovs_cell {w : World} {g off : Nat} {l : List Ord} (h : ∀ j u, (ovs l)[j]? = some u → w.cell? ⟨g, off + j, none⟩ = some u) {i : Nat} {r : Ord} (hi : l[i]? = some r) (j : Nat) (u : Value) (hj : j < 6) (hu : (ocells r)[j]? = some u) : w.cell? ⟨g, off + i * 6 + j, none⟩ = some u := by
  rw [Nat.add_assoc]
  refine h _ _ ?_
  rw [ovs_get l i j hj, hi]
  exact hu
/-- An order that came in, in any world where all that there was stands. -/
theorem ord_cells {w : World} {g off n c : Nat} {l : List Ord} (h : RowAt w (.slice (some ⟨g, off, none⟩) n c) l.length (ovs l)) {i : Nat} {o : Ord} (hi : l[i]? = some o) {W : World} {A : HP} (hW : Holds W (A * old w)) :
    W.cell? ⟨g, off + i * 6, none⟩ = some (.int .i64 o.kind) ∧ W.cell? ⟨g, off + i * 6 + 1, none⟩ = some (.int .i64 o.now) ∧ W.cell? ⟨g, off + i * 6 + 2, none⟩ = some (.int .i64 o.job) ∧ W.cell? ⟨g, off + i * 6 + 3, none⟩ = some (.int .i64 o.tr) ∧ W.cell? ⟨g, off + i * 6 + 4, none⟩ = some (.int .i64 o.wk) ∧ W.cell? ⟨g, off + i * 6 + 5, none⟩ = some (.int .i64 o.tm) := by
  have hl : l.length ≠ 0 := by
    intro e
    have := (List.getElem?_eq_some_iff.1 hi).1
    omega
  obtain ⟨g', off', c', e, _, _, hc⟩ := (h.old hW).get hl
  simp only [Value.slice.injEq, Option.some.injEq, Addr.mk.injEq, and_true] at e
  obtain ⟨⟨rfl, rfl⟩, _, rfl⟩ := e
  exact ⟨ovs_cell hc hi 0 _ (by omega) rfl, ovs_cell hc hi 1 _ (by omega) rfl, ovs_cell hc hi 2 _ (by omega) rfl, ovs_cell hc hi 3 _ (by omega) rfl, ovs_cell hc hi 4 _ (by omega) rfl, ovs_cell hc hi 5 _ (by omega) rfl⟩
end Go.Proofs.Ytfihmpkkpgmdhaa
