/-
  What the proof of DeskJoins leans on: plain definitions and laws, and contracts of functions that it reaches. No condition besides those that each theorem names.
-/
import Derived.Test.YtfihmpkkpgmdhaaGreatDoorZJg
import Derived.Test.YtfihmpkkpgmdhaaGreatDoorZJd
import Derived.Test.YtfihmpkkpgmdhaaGreatDoorZJc
import Derived.Test.YtfihmpkkpgmdhaaGreatDoorZJe
import Derived.Deep.Cut
/-
  Steps of such a walk: a whole struct loaded, stored; two variables made.
-/
namespace Go.Proofs.YtfihmpkkpgmdhaaGreatDoor
set_option linter.unusedVariables false
open Go
section
variable {P : Program} {ops : Array Oper} {S : World → Prop} {path : List Nat} {fz : Nat → Option (TypeId × List Value)} {Q : Exit → Act → World → Prop} {w0 : World}
variable {o : Oper} {i : Nat} {rest : List Oper} {a : Act} {A : HP}
theorem exec_load_part {w : World} (ty : TypeId) (x : Operand) (ho : o.op = .load ty x) (g off : Nat) (hx : a.eval x = .pointer (some ⟨g, off, none⟩)) {t : TypeId} {cs : List Value} (vs : List Value) {d : TypeDesc} (hb : BlockAt w g t cs) (hvs : (cs.drop off).take vs.length = vs)
    (hu : P.underlying ty = some d) (hd : (match d with | .struct _ | .array _ _ => true | _ => false) = true) (hi : (P.info? ty).map (·.size) = some vs.length) : (execOp a.eval o).run P w = .ok (.value (.agg vs.toArray)) w := by
  unfold execOp
  simp only [ho, hx, Instr.loadAt, Instr.sureAddr, Sem.run_bind, Sem.run_pure, Result.andThen_ok, run_load_part hb hvs hu hd hi]
theorem exec_store_part {w : World} (ty : TypeId) (x y : Operand) (ho : o.op = .store ty x y) (g off : Nat) (vs : List Value) (hx : a.eval x = .pointer (some ⟨g, off, none⟩)) (hy : a.eval y = .agg vs.toArray) {t : TypeId} {cs : List Value} (hb : BlockAt w g t cs) (hfit : off + vs.length ≤ cs.length)
    (hi : (P.info? ty).map (·.size) = some vs.length) (h1 : Ones vs) : ∃ w', (execOp a.eval o).run P w = .ok .skip w' ∧ BlockAt w' g t (cs.take off ++ vs ++ cs.drop (off + vs.length)) ∧ w.grownBy w' (some g) := by
  refine ⟨_, ?_, hb.setRow _, grown_setRow (grown_refl w _) _⟩
  unfold execOp
  simp only [ho, hx, hy, Instr.storeAt, Instr.sureAddr, Sem.run_bind, Sem.run_pure, Result.andThen_ok, run_store_part hb hfit hi h1]
/-- A load of a whole struct, in every world of the class. -/
theorem LexHL.load (ty : TypeId) (x : Operand) (ho : o.op = .load ty x) (g off : Nat) (hx : a.eval x = .pointer (some ⟨g, off, none⟩)) {t : TypeId} {cs : List Value} (vs : List Value) {d : TypeDesc} (hb : ∀ w, S w → BlockAt w g t cs) (hvs : (cs.drop off).take vs.length = vs)
    (hu : P.underlying ty = some d) (hd : (match d with | .struct _ | .array _ _ => true | _ => false) = true) (hi : (P.info? ty).map (·.size) = some vs.length) (hf : fz i = none) (hw : Region.wanted o (yielded ops a.tmps) = true)
    (h : LexHL P ops S path fz Q w0 (i + 1) rest (a.put o.dst (.agg vs.toArray)) A) : LexHL P ops S path fz Q w0 i (o :: rest) a A :=
  LexHL.still hf hw (fun w hS => exec_load_part ty x ho g off hx vs (hb w hS) hvs hu hd hi) h
/-- A store of a whole struct into a block of its own. -/
theorem LexHL.storeB {q : Nat} {t : TypeId} {cs : List Value} {B : HP} (ty : TypeId) (x y : Operand) (ho : o.op = .store ty x y) (vs : List Value) (hx : a.eval x = .pointer (some ⟨q, 0, none⟩)) (hy : a.eval y = .agg vs.toArray) (hlen : vs.length = cs.length)
    (hi : (P.info? ty).map (·.size) = some vs.length) (h1 : Ones vs) (hf : fz i = none) (hw : Region.wanted o (yielded ops a.tmps) = true) (hp : i ∈ path) (hA : A = bl q t cs * B) (hS : ∀ w R, Holds w (bl q t vs * B * R) → S w)
    (h : LexHL P ops S path fz Q w0 (i + 1) rest (a.put o.dst undef) (bl q t vs * B)) : LexHL P ops S path fz Q w0 i (o :: rest) a A := by
  subst hA
  refine LexHL.store (w1 := id) hf hw hp (fun w R hSw hq hA => ?_) h
  have hA' : Holds w (bl q t cs * (B * R)) := hA.eq (by ac_rfl)
  obtain ⟨w', e, hb, hg⟩ := exec_store_part (P := P) ty x y ho q 0 vs hx hy hA'.bl (by omega) hi h1
  have hb' : BlockAt w' q t vs := by simpa [hlen] using hb
  have hB := (hA'.grown hg hb').eq (show bl q t vs * (B * R) = bl q t vs * B * R from by ac_rfl)
  exact ⟨w', e, hS _ _ hB, hq.trans (Quiet.grown hg), hB⟩
def fz2 (i1 : Nat) (ty1 : TypeId) (cs1 : List Value) (i2 : Nat) (ty2 : TypeId) (cs2 : List Value) : Nat → Option (TypeId × List Value) := fun i => if i = i1 then some (ty1, cs1) else if i = i2 then some (ty2, cs2) else none
theorem fz2_fl {i1 i2 : Nat} {ty1 ty2 : TypeId} {cs1 cs2 : List Value} : ∀ i, fz2 i1 ty1 cs1 i2 ty2 cs2 i ≠ none → i ∈ [i1, i2] := fun i h => by
  unfold fz2 at h
  split at h
  · subst_vars; simp
  · split at h
    · subst_vars; simp
    · exact absurd rfl h
theorem fz2_no {i1 i2 : Nat} {ty1 ty2 : TypeId} {cs1 cs2 : List Value} : ∀ i ∈ [i1, i2], fz2 i1 ty1 cs1 i2 ty2 cs2 i ≠ none := fun i h => by
  unfold fz2
  simp only [List.mem_cons, List.not_mem_nil, or_false] at h
  split
  · simp
  · split
    · simp
    · omega
def MadeBy (P : Program) (o : Oper) (ty : TypeId) (cs : List Value) : Prop := o.guard = none ∧ ∀ (a : Act) (w : World), (execOp a.eval o).run P w = .ok (.value (.pointer (some ⟨w.heap.size, 0, none⟩))) (w.alloc (.cells cs.toArray ty))
theorem fz2_ok {i1 i2 : Nat} {o1 o2 : Oper} {ty1 ty2 : TypeId} {cs1 cs2 : List Value} (h1 : ops[i1]? = some o1) (r1 : MadeBy P o1 ty1 cs1) (h2 : ops[i2]? = some o2) (r2 : MadeBy P o2 ty2 cs2) : FzOk P ops (fz2 i1 ty1 cs1 i2 ty2 cs2) := fun i ty cs h o ho => by
  unfold fz2 at h
  split at h
  · subst_vars
    simp only [Option.some.injEq, Prod.mk.injEq] at h
    obtain ⟨rfl, rfl⟩ := h
    rw [h1] at ho
    obtain rfl := Option.some.inj ho
    exact r1
  · split at h
    · subst_vars
      simp only [Option.some.injEq, Prod.mk.injEq] at h
      obtain ⟨rfl, rfl⟩ := h
      rw [h2] at ho
      obtain rfl := Option.some.inj ho
      exact r2
    · cases h
end
end Go.Proofs.YtfihmpkkpgmdhaaGreatDoor

/-
  The law's own events, walked: what the story told, as the document has it.
-/
namespace Go.Proofs.YtfihmpkkpgmdhaaGreatDoor
set_option linter.unusedSimpArgs false
set_option linter.unusedVariables false
open Go.RowKit
section
variable {P : Program}
theorem exec_built {o : Oper} {a : Act} {w : World} (t : TypeId) (parts : Array (Nat × Operand)) (ho : o.op = .build t parts) (vs : List Value)
    (hb : P.built t (parts.map fun (i, x) => (i, a.eval x)).toList = some vs.toArray) : (execOp a.eval o).run P w = .ok (.value (.agg vs.toArray)) w := by
  unfold execOp
  simp only [ho, Sem.run_bind, run_build w t _ _ hb, Result.andThen_ok]
  rfl
end
theorem Tryz.infoREv : (Tryz.prog.info? 105).map (fun i => (i.zero, i.size, i.bytes)) = some (some (.agg #[.int .i64 0, .int .i64 0, .int .i64 0, .int .i64 0, .int .i64 0, .int .i64 0, .int .i64 0, .int .i64 0, .int .i64 0, .int .i64 0, .int .i64 0, .int .i64 0, .int .i64 0, .int .i64 0]), 14, 112) := by kernel_rfl
def revs (v : Value) (l : List Ev) : HP := rw_ 105 14 v l.length (evvs l)
theorem Holds.nilRE {w : World} {A : HP} (h : Holds w A) : Holds w (revs (.slice none 0 0) [] * A) := h.nilRow _ _
theorem rev_fit {w : World} {v : Value} {R : HP} (acc : List Ev) (e : Ev) (h : Holds w (rw_ 105 14 v (acc.length + 1) (evvs acc ++ evcells e) * R)) : Holds w (revs v (acc ++ [e]) * R) :=
  h.eq (by unfold revs; rw [evvs_append, List.length_append]; simp [evvs])
theorem ev_cells14 {w : World} {g off n c : Nat} {E : List Ev} (h : RowAt w (.slice (some ⟨g, off, none⟩) n c) E.length (evvs E)) {i : Nat} (ep2 kd nw jb tr wk tm a0 a1 a2 s1 s2 s3 s4 : Int) (hi : E[i]? = some ⟨⟨ep2, ⟨kd, nw, jb, tr, wk, tm⟩⟩, ⟨a0, a1, a2⟩, ⟨s1, s2, s3, s4⟩⟩) {W : World} {A : HP} (hW : Holds W (A * old w)) :
    W.cell? ⟨g, off + i * 14, none⟩ = some (.int .i64 ep2) ∧ W.cell? ⟨g, off + i * 14 + 1, none⟩ = some (.int .i64 kd) ∧ W.cell? ⟨g, off + i * 14 + 2, none⟩ = some (.int .i64 nw) ∧ W.cell? ⟨g, off + i * 14 + 3, none⟩ = some (.int .i64 jb) ∧ W.cell? ⟨g, off + i * 14 + 4, none⟩ = some (.int .i64 tr) ∧ W.cell? ⟨g, off + i * 14 + 5, none⟩ = some (.int .i64 wk) ∧ W.cell? ⟨g, off + i * 14 + 6, none⟩ = some (.int .i64 tm) ∧ W.cell? ⟨g, off + i * 14 + 7, none⟩ = some (.int .i64 a0) ∧ W.cell? ⟨g, off + i * 14 + 8, none⟩ = some (.int .i64 a1) ∧ W.cell? ⟨g, off + i * 14 + 9, none⟩ = some (.int .i64 a2) ∧ W.cell? ⟨g, off + i * 14 + 10, none⟩ = some (.int .i64 s1) ∧ W.cell? ⟨g, off + i * 14 + 11, none⟩ = some (.int .i64 s2) ∧ W.cell? ⟨g, off + i * 14 + 12, none⟩ = some (.int .i64 s3) ∧ W.cell? ⟨g, off + i * 14 + 13, none⟩ = some (.int .i64 s4) :=
  ⟨ev_old_cell h hi hW 0 _ (by omega) rfl, ev_old_cell h hi hW 1 _ (by omega) rfl, ev_old_cell h hi hW 2 _ (by omega) rfl, ev_old_cell h hi hW 3 _ (by omega) rfl, ev_old_cell h hi hW 4 _ (by omega) rfl, ev_old_cell h hi hW 5 _ (by omega) rfl, ev_old_cell h hi hW 6 _ (by omega) rfl, ev_old_cell h hi hW 7 _ (by omega) rfl, ev_old_cell h hi hW 8 _ (by omega) rfl, ev_old_cell h hi hW 9 _ (by omega) rfl, ev_old_cell h hi hW 10 _ (by omega) rfl, ev_old_cell h hi hW 11 _ (by omega) rfl, ev_old_cell h hi hW 12 _ (by omega) rfl, ev_old_cell h hi hW 13 _ (by omega) rfl⟩
end Go.Proofs.YtfihmpkkpgmdhaaGreatDoor

/-
  The cells of an event.
-/
namespace Go.Proofs.YtfihmpkkpgmdhaaGreatDoor
set_option linter.unusedSimpArgs false
set_option linter.unusedVariables false
open Go.RowKit
theorem sev_cells {W : World} {g off n c i : Nat} {E : List Ev} {R : HP} (ep2 kd nw jb tr wk tm a0 a1 a2 s1 s2 s3 s4 : Int) (h : Holds W (sevs (.slice (some ⟨g, off, none⟩) n c) E * R)) (hi : E[i]? = some ⟨⟨ep2, ⟨kd, nw, jb, tr, wk, tm⟩⟩, ⟨a0, a1, a2⟩, ⟨s1, s2, s3, s4⟩⟩) : W.cell? ⟨g, off + i * 14, none⟩ = some (.int .i64 ep2) ∧ W.cell? ⟨g, off + i * 14 + 1, none⟩ = some (.int .i64 kd) ∧ W.cell? ⟨g, off + i * 14 + 2, none⟩ = some (.int .i64 nw) ∧ W.cell? ⟨g, off + i * 14 + 3, none⟩ = some (.int .i64 jb) ∧ W.cell? ⟨g, off + i * 14 + 4, none⟩ = some (.int .i64 tr) ∧ W.cell? ⟨g, off + i * 14 + 5, none⟩ = some (.int .i64 wk) ∧ W.cell? ⟨g, off + i * 14 + 6, none⟩ = some (.int .i64 tm) ∧ W.cell? ⟨g, off + i * 14 + 7, none⟩ = some (.int .i64 a0) ∧ W.cell? ⟨g, off + i * 14 + 8, none⟩ = some (.int .i64 a1) ∧ W.cell? ⟨g, off + i * 14 + 9, none⟩ = some (.int .i64 a2) ∧ W.cell? ⟨g, off + i * 14 + 10, none⟩ = some (.int .i64 s1) ∧ W.cell? ⟨g, off + i * 14 + 11, none⟩ = some (.int .i64 s2) ∧ W.cell? ⟨g, off + i * 14 + 12, none⟩ = some (.int .i64 s3) ∧ W.cell? ⟨g, off + i * 14 + 13, none⟩ = some (.int .i64 s4) := by
  have hn : E.length ≠ 0 := by intro e; have := (List.getElem?_eq_some_iff.1 hi).1; omega
  obtain ⟨g', off', c', e, _, _, hc⟩ := h.row.get hn
  simp only [Value.slice.injEq, Option.some.injEq, Addr.mk.injEq, and_true] at e
  obtain ⟨⟨rfl, rfl⟩, _, rfl⟩ := e
  exact ⟨evvs_cell0 hc hi, evvs_cell hc hi 1 _ (by omega) rfl, evvs_cell hc hi 2 _ (by omega) rfl, evvs_cell hc hi 3 _ (by omega) rfl, evvs_cell hc hi 4 _ (by omega) rfl, evvs_cell hc hi 5 _ (by omega) rfl, evvs_cell hc hi 6 _ (by omega) rfl, evvs_cell hc hi 7 _ (by omega) rfl, evvs_cell hc hi 8 _ (by omega) rfl, evvs_cell hc hi 9 _ (by omega) rfl, evvs_cell hc hi 10 _ (by omega) rfl, evvs_cell hc hi 11 _ (by omega) rfl, evvs_cell hc hi 12 _ (by omega) rfl, evvs_cell hc hi 13 _ (by omega) rfl⟩
theorem sev_shape {W : World} {v : Value} {E : List Ev} {R : HP} (h : Holds W (sevs v E * R)) {i : Nat} (hi : i < E.length) : ∃ g off c, v = .slice (some ⟨g, off, none⟩) E.length c := by
  obtain ⟨g, off, c, e, _⟩ := h.row.get (by omega)
  exact ⟨g, off, c, e⟩
end Go.Proofs.YtfihmpkkpgmdhaaGreatDoor

/-
  The document's board, walked: Did.
-/
namespace Go.Proofs.YtfihmpkkpgmdhaaGreatDoor
set_option linter.unusedSimpArgs false
set_option linter.unusedVariables false
open Go.RowKit
/-- What Did leaves. -/
def DidPost (w : World) (x : Tbl × Ans) (e : Ending) (w' : World) : Prop :=
  e = .returned (.tuple #[.agg (tcells x.1).toArray, .agg #[.int .i64 x.2.code, .int .i64 x.2.job, .int .i64 x.2.tr]]) ∧ Below w.heap.size w w'
set_option maxRecDepth 100000 in
set_option maxHeartbeats 4000000 in
theorem bdid_no (t : Tbl) (kd nw jb tr wk tm : Int) (w : World) (ho : chk ⟨kd, nw, jb, tr, wk, tm⟩ ≠ 0) : Calls Tryz.prog 93 #[.agg (tcells t).toArray, .agg #[.int .i64 kd, .int .i64 nw, .int .i64 jb, .int .i64 tr, .int .i64 wk, .int .i64 tm]] w (DidPost w (t.did ⟨kd, nw, jb, tr, wk, tm⟩)) := by
  rw [did_no ho]
  obtain ⟨C, hC⟩ : ∃ C, chk ⟨kd, nw, jb, tr, wk, tm⟩ = C := ⟨_, rfl⟩
  rw [hC]
  have hc1 : (C != 0) = true := by rw [hC] at ho; simpa using ho
  have HC := Lib.hid hC; clear hC ho
  have h0 := ((((Holds.old (w := w)).boxB (ty := 96) (cs := tcells t) rfl).boxB (ty := 84) (cs := [.int .i64 kd, .int .i64 nw, .int .i64 jb, .int .i64 tr, .int .i64 wk, .int .i64 tm]) (g := w.heap.size + 1) (by simp)).boxB (ty := 96) (cs := tcells Tbl.zero) (g := w.heap.size + 1 + 1) (by simp)).boxB (ty := 88) (cs := [.int .i64 0, .int .i64 0, .int .i64 0]) (g := w.heap.size + 1 + 1 + 1) (by simp)
  have H0 := Lib.hid h0; clear h0
  have q0 := ((((Quiet.refl w).alloc (.cells (tcells t).toArray 96)).alloc (.cells ([.int .i64 kd, .int .i64 nw, .int .i64 jb, .int .i64 tr, .int .i64 wk, .int .i64 tm] : List Value).toArray 84)).alloc (.cells (tcells Tbl.zero).toArray 96)).alloc (.cells ([.int .i64 0, .int .i64 0, .int .i64 0] : List Value).toArray 88)
  have Q0 := Lib.hid q0; clear q0
  go_enter Tryz.func93, Tryz.ntmps93
  go_wp2_with fail
  refine (ofault_any kd nw jb tr wk tm _).mono ?_
  rw [HC.out]
  rintro e w1 ⟨rfl, hb1⟩
  have H1 := Lib.hid (H0.out.below hb1); have Q1 := Lib.hid (Q0.out.trans (Quiet.below hb1)); clear hb1 H0 Q0
  have x1 := H1.out.right.right.bl.cells
  have HS0 := Lib.hid H1.out.right.right.right.bl
  go_wp2_with (first | (refine wpList_load_whole rfl 96 _ rfl w.heap.size rfl (tcells t) HS0.out Tryz.underlying96 rfl (by kernel_rfl) ?_) | (refine wpList_store_whole rfl 96 _ _ rfl (w.heap.size + 1 + 1) (tcells t) rfl rfl H1.out.two.bl (by simp [tcells_len]) (by kernel_rfl) (tcells_ones t) ?_; intro w' h1' h2' h3'; have HE := Lib.hid (H1.out.two.grown h2' h1').two; have QE := Lib.hid (Quiet.grown h2'); have fe := HE.out.bl.frees; have ce := HE.out.bl.cells; have le := HE.out.bl.lt; clear h1' h2' h3'))
  have hf := ((HE.out.setB 0 (.int .i64 C)).setB 1 (.int .i64 0)).setB 2 (.int .i64 0)
  have hl1 := run_load_part (P := Tryz.prog) (off := 0) (ty := 88) (vs := [.int .i64 C, .int .i64 0, .int .i64 0]) hf.bl rfl Tryz.underlying88 rfl (by kernel_rfl)
  have hl2 := run_load_part (P := Tryz.prog) (off := 0) (ty := 96) (vs := tcells t) hf.two.bl (by simp) Tryz.underlying96 rfl (by kernel_rfl)
  exact bodyPost_ret (results_cell2 rfl rfl rfl hl2 hl1) rfl ⟨rfl, hf.right.right.right.right.toBelow' ((((Q1.out.trans QE.out).setCell _ _).setCell _ _).setCell _ _)⟩
set_option maxRecDepth 100000 in
set_option maxHeartbeats 4000000 in
theorem bdid_take (t : Tbl) (nw jb tr wk tm : Int) (w : World) (hok : t.Ok) (ho : chk ⟨2, nw, jb, tr, wk, tm⟩ = 0) : Calls Tryz.prog 93 #[.agg (tcells t).toArray, .agg #[.int .i64 2, .int .i64 nw, .int .i64 jb, .int .i64 tr, .int .i64 wk, .int .i64 tm]] w (DidPost w (t.did ⟨2, nw, jb, tr, wk, tm⟩)) := by
  obtain ⟨X, hX⟩ : ∃ X, t.did ⟨2, nw, jb, tr, wk, tm⟩ = X := ⟨_, rfl⟩
  rw [hX]
  have HX := Lib.hid hX; clear hX
  have HO := Lib.hid ho; clear ho
  have hok' := pass_ok hok (chk_more HO.out).1.2
  have htm := (chk_more HO.out).2.2.1 (.inl rfl)
  have htm0 := htm.1
  have htm1 := htm.2
  have HOK := Lib.hid hok'; clear hok hok' htm
  have h0 := ((((Holds.old (w := w)).boxB (ty := 96) (cs := tcells t) rfl).boxB (ty := 84) (cs := [.int .i64 2, .int .i64 nw, .int .i64 jb, .int .i64 tr, .int .i64 wk, .int .i64 tm]) (g := w.heap.size + 1) (by simp)).boxB (ty := 96) (cs := tcells Tbl.zero) (g := w.heap.size + 1 + 1) (by simp)).boxB (ty := 88) (cs := [.int .i64 0, .int .i64 0, .int .i64 0]) (g := w.heap.size + 1 + 1 + 1) (by simp)
  have H0 := Lib.hid h0; clear h0
  have q0 := ((((Quiet.refl w).alloc (.cells (tcells t).toArray 96)).alloc (.cells ([.int .i64 2, .int .i64 nw, .int .i64 jb, .int .i64 tr, .int .i64 wk, .int .i64 tm] : List Value).toArray 84)).alloc (.cells (tcells Tbl.zero).toArray 96)).alloc (.cells ([.int .i64 0, .int .i64 0, .int .i64 0] : List Value).toArray 88)
  have Q0 := Lib.hid q0; clear q0
  go_enter Tryz.func93, Tryz.ntmps93
  go_wp2_with fail
  refine (ofault_any 2 nw jb tr wk tm _).mono ?_
  rw [HO.out]
  rintro e w1 ⟨rfl, hb1⟩
  have H1 := Lib.hid (H0.out.below hb1); have Q1 := Lib.hid (Q0.out.trans (Quiet.below hb1)); clear hb1 H0 Q0
  have x1 := H1.out.right.right.bl.cells
  have HS0 := Lib.hid H1.out.right.right.right.bl
  go_wp2_with (refine wpList_load_whole rfl 96 _ rfl w.heap.size rfl (tcells t) HS0.out Tryz.underlying96 rfl (by kernel_rfl) ?_)
  refine (later_any t nw _).mono ?_
  rintro e w2 ⟨rfl, hb2⟩
  obtain ⟨P, hP⟩ : ∃ P, t.pass nw = P := ⟨_, rfl⟩
  rw [hP]
  have HP := Lib.hid hP; clear hP
  have H2 := Lib.hid (H1.out.below hb2); have Q2 := Lib.hid (Q1.out.trans (Quiet.below hb2)); clear hb2 x1 HS0 H1 Q1
  rw [HP.out] at HOK
  have hn0 := HOK.out.now.1
  have hn1 := HOK.out.now.2
  go_wp2_with (refine wpList_store_whole rfl 96 _ _ rfl w2.heap.size (tcells P) rfl rfl (BlockAt.new w2 96 (tcells Tbl.zero)) (by simp [tcells_len]) (by kernel_rfl) (tcells_ones P) ?_; intro w3 h1' h2' h3'; have H3 := Lib.hid ((H2.out.allocB 96 (tcells Tbl.zero)).grown h2' h1'); have Q3 := Lib.hid ((Q2.out.alloc (.cells (tcells Tbl.zero).toArray 96)).trans (Quiet.grown h2')); have x1 := H3.out.right.right.right.bl.cells; have HS0 := Lib.hid H3.out.right.right.right.right.bl; have HS4 := Lib.hid H3.out.bl; have f4 := HS4.out.frees; have c24 := HS4.out.cell 24 _ rfl; clear h1' h2' h3')
  go_loopw [8] (fun i wr => ∃ q : Nat, q ≤ 6 ∧ i = .int .i64 q ∧ wr = w3 ∧ Hid (∀ i, i < q → (P.jobs i).st ≠ 1)) (fun i _ => 6 - (intOf i).toNat)
  case atStart => exact ⟨0, by omega, rfl, rfl, by simp [Hid]⟩
  case round =>
    obtain ⟨q, hq, rfl, rfl, hno⟩ := hrel
    by_cases hlt : q < 6
    · obtain ⟨c0, c1, c2, c3⟩ := HS4.out.job hlt
      have ht0 := (HOK.out.jobs q).tr.1
      have ht1 := (HOK.out.jobs q).tr.2
      by_cases hs : (P.jobs q).st = 1
      · have hs1 : ((P.jobs q).st == 1) = true := by simpa using hs
        have hx : X = (P.set q ⟨2, wk, (P.jobs q).tr + 1, P.now + tm⟩, ⟨0, q, (P.jobs q).tr + 1⟩) := by
          rw [← HX.out]
          refine did_of HO.out ?_ rfl
          rw [act_take, HP.out, ctake, firstW_some 6 0 q (fun j _ hj => hno.out j hj) (by omega) (by omega) hs]
        subst hx
        have HS := Lib.hid hs; clear hs
        go_upto_region 12 with fail
        have hg : Holds ((((wr.setCell ⟨w2.heap.size, q * 4, none⟩ (.int .i64 2)).setCell ⟨w2.heap.size, q * 4 + 1, none⟩ (.int .i64 wk)).setCell ⟨w2.heap.size, q * 4 + 2, none⟩ (.int .i64 ((P.jobs q).tr + 1))).setCell ⟨w2.heap.size, q * 4 + 3, none⟩ (.int .i64 (P.now + tm))) _ := Holds.setJob H3.out hlt ⟨2, wk, (P.jobs q).tr + 1, P.now + tm⟩
        have qg := ((((Q3.out.setCell ⟨w2.heap.size, q * 4, none⟩ (.int .i64 2)).setCell ⟨w2.heap.size, q * 4 + 1, none⟩ (.int .i64 wk)).setCell ⟨w2.heap.size, q * 4 + 2, none⟩ (.int .i64 ((P.jobs q).tr + 1))).setCell ⟨w2.heap.size, q * 4 + 3, none⟩ (.int .i64 (P.now + tm)))
        obtain ⟨PT, hPT⟩ : ∃ PT, (P.set q ⟨2, wk, (P.jobs q).tr + 1, P.now + tm⟩) = PT := ⟨_, rfl⟩
        obtain ⟨we, hwe⟩ : ∃ we, (((wr.setCell ⟨w2.heap.size, q * 4, none⟩ (.int .i64 2)).setCell ⟨w2.heap.size, q * 4 + 1, none⟩ (.int .i64 wk)).setCell ⟨w2.heap.size, q * 4 + 2, none⟩ (.int .i64 ((P.jobs q).tr + 1))).setCell ⟨w2.heap.size, q * 4 + 3, none⟩ (.int .i64 (P.now + tm)) = we := ⟨_, rfl⟩
        obtain ⟨n9, hn9⟩ : ∃ n9, (P.jobs q).tr + 1 = n9 := ⟨_, rfl⟩
        rw [hwe, hPT] at hg
        rw [hwe] at qg ⊢
        have HG := Lib.hid hg; have QG := Lib.hid qg; have HPT := Lib.hid hPT
        clear hg qg hPT hwe c0 c1 c2 c3 c24 x1 f4 HS0 HS4 ht0 ht1 H3 Q3
        go_wp2_with (first | (refine wpList_load_whole rfl 96 _ rfl w2.heap.size rfl (tcells PT) HG.out.tb Tryz.underlying96 rfl (by kernel_rfl) ?_) | (refine wpList_store_whole rfl 96 _ _ rfl (w.heap.size + 1 + 1) (tcells PT) rfl rfl HG.out.three.bl (by simp [tcells_len]) (by kernel_rfl) (tcells_ones PT) ?_; intro w' h1' h2' h3'; have HE := Lib.hid (HG.out.three.grown h2' h1').three; have QE := Lib.hid (Quiet.grown h2'); have fe := HE.out.bl.frees; have ce := HE.out.bl.cells; have le := HE.out.bl.lt; clear h1' h2' h3'))
        have hf := ((HE.out.setB 0 (.int .i64 0)).setB 1 (.int .i64 q)).setB 2 (.int .i64 n9)
        have hl1 := run_load_part (P := Tryz.prog) (off := 0) (ty := 88) (vs := [.int .i64 0, .int .i64 q, .int .i64 n9]) hf.bl rfl Tryz.underlying88 rfl (by kernel_rfl)
        have hl2 := run_load_part (P := Tryz.prog) (off := 0) (ty := 96) (vs := tcells PT) hf.two.bl (by simp) Tryz.underlying96 rfl (by kernel_rfl)
        exact bodyPost_ret (results_cell2 rfl rfl rfl hl2 hl1) rfl ⟨by rw [← HPT.out, hn9], hf.right.right.right.right.right.toBelow' ((((QG.out.trans QE.out).setCell _ _).setCell _ _).setCell _ _)⟩
      · have hs1 : ((P.jobs q).st == 1) = false := by simpa using hs
        have HS := Lib.hid hs; clear hs
        go_wp2
        go_roundw
        case rel => exact ⟨q + 1, by omega, by go_num, (by first | trivial | rfl), fun i hi => by
          by_cases e : i = q
          · subst e; exact HS.out
          · exact hno.out i (by omega)⟩
        case measure => simp [intOf]; omega
    · obtain rfl : q = 6 := by omega
      have hx : X = (t, ⟨5, 0, 0⟩) := by
        rw [← HX.out]
        refine did_not HO.out (p := P) ?_ (by simp)
        rw [act_take, HP.out, ctake, firstW_none 6 0 (fun j _ hj => hno.out j (by omega))]
      subst hx

      have HG := Lib.hid (H3.out);
      go_wp2_with (first | (refine wpList_load_whole rfl 96 _ rfl w.heap.size rfl (tcells t) HG.out.right.right.right.right.bl Tryz.underlying96 rfl (by kernel_rfl) ?_) | (refine wpList_store_whole rfl 96 _ _ rfl (w.heap.size + 1 + 1) (tcells t) rfl rfl HG.out.three.bl (by simp [tcells_len]) (by kernel_rfl) (tcells_ones t) ?_; intro w' h1' h2' h3'; have HE := Lib.hid (HG.out.three.grown h2' h1').three; have QE := Lib.hid (Quiet.grown h2'); have fe := HE.out.bl.frees; have ce := HE.out.bl.cells; have le := HE.out.bl.lt; clear h1' h2' h3'))
      have hf := ((HE.out.setB 0 (.int .i64 5)).setB 1 (.int .i64 0)).setB 2 (.int .i64 0)
      have hl1 := run_load_part (P := Tryz.prog) (off := 0) (ty := 88) (vs := [.int .i64 5, .int .i64 0, .int .i64 0]) hf.bl rfl Tryz.underlying88 rfl (by kernel_rfl)
      have hl2 := run_load_part (P := Tryz.prog) (off := 0) (ty := 96) (vs := tcells t) hf.two.bl (by simp) Tryz.underlying96 rfl (by kernel_rfl)
      exact bodyPost_ret (results_cell2 rfl rfl rfl hl2 hl1) rfl ⟨rfl, hf.right.right.right.right.right.toBelow' ((((Q3.out.trans QE.out).setCell _ _).setCell _ _).setCell _ _)⟩
end Go.Proofs.YtfihmpkkpgmdhaaGreatDoor

/-
  The document's board, walked: Did.
-/
namespace Go.Proofs.YtfihmpkkpgmdhaaGreatDoor
set_option linter.unusedSimpArgs false
set_option linter.unusedVariables false
open Go.RowKit
set_option maxRecDepth 100000 in
set_option maxHeartbeats 4000000 in
theorem bdid_add1 (t : Tbl) (nw tr wk tm : Int) (q : Nat) (w : World) (hok : t.Ok) (ho : chk ⟨1, nw, (q : Int), tr, wk, tm⟩ = 0) (hq6 : q < 6) (hs : ((t.pass nw).jobs q).st ≠ 0) : Calls Tryz.prog 93 #[.agg (tcells t).toArray, .agg #[.int .i64 1, .int .i64 nw, .int .i64 (q : Int), .int .i64 tr, .int .i64 wk, .int .i64 tm]] w (DidPost w (t.did ⟨1, nw, (q : Int), tr, wk, tm⟩)) := by
  have HO := Lib.hid ho; clear ho
  have hok' := pass_ok hok (chk_more HO.out).1.2
  have HOK := Lib.hid hok'; clear hok hok'
  have htm0 := (chk_zero HO.out).2.2.2.1
  have htm1 := (chk_zero HO.out).2.2.2.2
  dsimp only at htm0 htm1
  obtain ⟨X, hX⟩ : ∃ X, t.did ⟨1, nw, (q : Int), tr, wk, tm⟩ = X := ⟨_, rfl⟩
  rw [hX]
  have HX := Lib.hid hX; clear hX
  have h0 := ((((Holds.old (w := w)).boxB (ty := 96) (cs := tcells t) rfl).boxB (ty := 84) (cs := [.int .i64 1, .int .i64 nw, .int .i64 (q : Int), .int .i64 tr, .int .i64 wk, .int .i64 tm]) (g := w.heap.size + 1) (by simp)).boxB (ty := 96) (cs := tcells Tbl.zero) (g := w.heap.size + 1 + 1) (by simp)).boxB (ty := 88) (cs := [.int .i64 0, .int .i64 0, .int .i64 0]) (g := w.heap.size + 1 + 1 + 1) (by simp)
  have H0 := Lib.hid h0; clear h0
  have q0 := ((((Quiet.refl w).alloc (.cells (tcells t).toArray 96)).alloc (.cells ([.int .i64 1, .int .i64 nw, .int .i64 (q : Int), .int .i64 tr, .int .i64 wk, .int .i64 tm] : List Value).toArray 84)).alloc (.cells (tcells Tbl.zero).toArray 96)).alloc (.cells ([.int .i64 0, .int .i64 0, .int .i64 0] : List Value).toArray 88)
  have Q0 := Lib.hid q0; clear q0
  go_enter Tryz.func93, Tryz.ntmps93
  go_wp2_with fail
  refine (ofault_any 1 nw (q : Int) tr wk tm _).mono ?_
  rw [HO.out]
  rintro e w1 ⟨rfl, hb1⟩
  have H1 := Lib.hid (H0.out.below hb1); have Q1 := Lib.hid (Q0.out.trans (Quiet.below hb1)); clear hb1 H0 Q0
  have x1 := H1.out.right.right.bl.cells
  have HS0 := Lib.hid H1.out.right.right.right.bl
  go_wp2_with (refine wpList_load_whole rfl 96 _ rfl w.heap.size rfl (tcells t) HS0.out Tryz.underlying96 rfl (by kernel_rfl) ?_)
  refine (later_any t nw _).mono ?_
  rintro e w2 ⟨rfl, hb2⟩
  obtain ⟨P, hP⟩ : ∃ P, t.pass nw = P := ⟨_, rfl⟩
  rw [hP]
  have HP := Lib.hid hP; clear hP
  have H2 := Lib.hid (H1.out.below hb2); have Q2 := Lib.hid (Q1.out.trans (Quiet.below hb2)); clear hb2 x1 HS0 H1 Q1
  rw [HP.out] at HOK
  have hn0 := HOK.out.now.1
  have hn1 := HOK.out.now.2
  obtain ⟨⟨s0, k0, r0, u0⟩, hJ⟩ : ∃ J, P.jobs q = J := ⟨_, rfl⟩
  have HJ := Lib.hid hJ
  rw [HP.out, hJ] at hs
  dsimp only at hs
  have hs1 : (s0 != 0) = true := by simpa using hs
  have hx : X = (t, ⟨4, 0, 0⟩) := by
    rw [← HX.out]
    refine did_not HO.out (p := P) ?_ (by simp)
    dsimp only
    rw [HP.out]
    simp [Tbl.act, hJ, hs]
  subst hx
  have HS := Lib.hid hs; clear hs
  clear hJ
  go_upto_region 14 with (refine wpList_store_whole rfl 96 _ _ rfl w2.heap.size (tcells P) rfl rfl (BlockAt.new w2 96 (tcells Tbl.zero)) (by simp [tcells_len]) (by kernel_rfl) (tcells_ones P) ?_; intro w3 h1' h2' h3'; have H3 := Lib.hid ((H2.out.allocB 96 (tcells Tbl.zero)).grown h2' h1'); have Q3 := Lib.hid ((Q2.out.alloc (.cells (tcells Tbl.zero).toArray 96)).trans (Quiet.grown h2')); have x1 := H3.out.right.right.right.bl.cells; have HS4 := Lib.hid H3.out.bl; clear h1' h2' h3')
  obtain ⟨c0, c1, c2, c3⟩ := HS4.out.job hq6
  rw [HJ.out] at c0 c1 c2 c3
  dsimp only at c0 c1 c2 c3
  go_upto_region 15 with fail
  have h4 := (H3.out.boxB (ty := 92) (cs := [.int .i64 s0, .int .i64 k0, .int .i64 r0, .int .i64 u0]) rfl)
  have q4 := (Q3.out.alloc (.cells ([.int .i64 s0, .int .i64 k0, .int .i64 r0, .int .i64 u0] : List Value).toArray 92))
  obtain ⟨w4, hw4⟩ : ∃ w4, w3.alloc (.cells ([.int .i64 s0, .int .i64 k0, .int .i64 r0, .int .i64 u0] : List Value).toArray 92) = w4 := ⟨_, rfl⟩
  obtain ⟨bj, hbj⟩ : ∃ bj, w3.heap.size = bj := ⟨_, rfl⟩
  obtain ⟨b4, hb4⟩ : ∃ b4, w2.heap.size = b4 := ⟨_, rfl⟩
  rw [hw4, hbj] at h4
  rw [hb4] at h4
  rw [hw4] at q4
  have hw4' : w3.alloc (.cells #[.int .i64 s0, .int .i64 k0, .int .i64 r0, .int .i64 u0] 92) = w4 := hw4
  rw [hw4', hbj, hb4]
  clear c0 c1 c2 c3 HS4 x1 hw4 hw4' hbj hb4 H3 Q3 H2 Q2
  have x1 := h4.right.right.right.right.bl.cells
  have xj := h4.bl.cells
  have HS4 := Lib.hid h4.two.bl
  have f4 := HS4.out.frees
  have l4 := HS4.out.lt
  have lj := h4.bl.lt
  obtain ⟨c0, c1, c2, c3⟩ := HS4.out.job hq6
  rw [HJ.out] at c0 c1 c2 c3
  dsimp only at c0 c1 c2 c3
  have H4 := Lib.hid h4; have Q4 := Lib.hid q4; clear h4 q4
  go_wp2_with (first | (refine wpList_load_whole rfl 96 _ rfl w.heap.size rfl (tcells t) H4.out.right.right.right.right.right.bl Tryz.underlying96 rfl (by kernel_rfl) ?_) | (refine wpList_store_whole rfl 96 _ _ rfl (w.heap.size + 1 + 1) (tcells t) rfl rfl H4.out.four.bl (by simp [tcells_len]) (by kernel_rfl) (tcells_ones t) ?_; intro w' h1' h2' h3'; have HE := Lib.hid (H4.out.four.grown h2' h1').four; have QE := Lib.hid (Quiet.grown h2'); have fe := HE.out.bl.frees; have ce := HE.out.bl.cells; have le := HE.out.bl.lt; clear h1' h2' h3'))
  have hf := ((HE.out.setB 0 (.int .i64 4)).setB 1 (.int .i64 0)).setB 2 (.int .i64 0)
  have hl1 := run_load_part (P := Tryz.prog) (off := 0) (ty := 88) (vs := [.int .i64 4, .int .i64 0, .int .i64 0]) hf.bl rfl Tryz.underlying88 rfl (by kernel_rfl)
  have hl2 := run_load_part (P := Tryz.prog) (off := 0) (ty := 96) (vs := tcells t) hf.two.bl (by simp) Tryz.underlying96 rfl (by kernel_rfl)
  exact bodyPost_ret (results_cell2 rfl rfl rfl hl2 hl1) rfl ⟨rfl, hf.right.right.right.right.right.right.toBelow' ((((Q4.out.trans QE.out).setCell _ _).setCell _ _).setCell _ _)⟩
set_option maxRecDepth 100000 in
set_option maxHeartbeats 4000000 in
theorem bdid_add0 (t : Tbl) (nw tr wk tm : Int) (q : Nat) (w : World) (hok : t.Ok) (ho : chk ⟨1, nw, (q : Int), tr, wk, tm⟩ = 0) (hq6 : q < 6) (hs : ((t.pass nw).jobs q).st = 0) : Calls Tryz.prog 93 #[.agg (tcells t).toArray, .agg #[.int .i64 1, .int .i64 nw, .int .i64 (q : Int), .int .i64 tr, .int .i64 wk, .int .i64 tm]] w (DidPost w (t.did ⟨1, nw, (q : Int), tr, wk, tm⟩)) := by
  have HO := Lib.hid ho; clear ho
  have hok' := pass_ok hok (chk_more HO.out).1.2
  have HOK := Lib.hid hok'; clear hok hok'
  have htm0 := (chk_zero HO.out).2.2.2.1
  have htm1 := (chk_zero HO.out).2.2.2.2
  dsimp only at htm0 htm1
  obtain ⟨X, hX⟩ : ∃ X, t.did ⟨1, nw, (q : Int), tr, wk, tm⟩ = X := ⟨_, rfl⟩
  rw [hX]
  have HX := Lib.hid hX; clear hX
  have h0 := ((((Holds.old (w := w)).boxB (ty := 96) (cs := tcells t) rfl).boxB (ty := 84) (cs := [.int .i64 1, .int .i64 nw, .int .i64 (q : Int), .int .i64 tr, .int .i64 wk, .int .i64 tm]) (g := w.heap.size + 1) (by simp)).boxB (ty := 96) (cs := tcells Tbl.zero) (g := w.heap.size + 1 + 1) (by simp)).boxB (ty := 88) (cs := [.int .i64 0, .int .i64 0, .int .i64 0]) (g := w.heap.size + 1 + 1 + 1) (by simp)
  have H0 := Lib.hid h0; clear h0
  have q0 := ((((Quiet.refl w).alloc (.cells (tcells t).toArray 96)).alloc (.cells ([.int .i64 1, .int .i64 nw, .int .i64 (q : Int), .int .i64 tr, .int .i64 wk, .int .i64 tm] : List Value).toArray 84)).alloc (.cells (tcells Tbl.zero).toArray 96)).alloc (.cells ([.int .i64 0, .int .i64 0, .int .i64 0] : List Value).toArray 88)
  have Q0 := Lib.hid q0; clear q0
  go_enter Tryz.func93, Tryz.ntmps93
  go_wp2_with fail
  refine (ofault_any 1 nw (q : Int) tr wk tm _).mono ?_
  rw [HO.out]
  rintro e w1 ⟨rfl, hb1⟩
  have H1 := Lib.hid (H0.out.below hb1); have Q1 := Lib.hid (Q0.out.trans (Quiet.below hb1)); clear hb1 H0 Q0
  have x1 := H1.out.right.right.bl.cells
  have HS0 := Lib.hid H1.out.right.right.right.bl
  go_wp2_with (refine wpList_load_whole rfl 96 _ rfl w.heap.size rfl (tcells t) HS0.out Tryz.underlying96 rfl (by kernel_rfl) ?_)
  refine (later_any t nw _).mono ?_
  rintro e w2 ⟨rfl, hb2⟩
  obtain ⟨P, hP⟩ : ∃ P, t.pass nw = P := ⟨_, rfl⟩
  rw [hP]
  have HP := Lib.hid hP; clear hP
  have H2 := Lib.hid (H1.out.below hb2); have Q2 := Lib.hid (Q1.out.trans (Quiet.below hb2)); clear hb2 x1 HS0 H1 Q1
  rw [HP.out] at HOK
  have hn0 := HOK.out.now.1
  have hn1 := HOK.out.now.2
  obtain ⟨⟨s0, k0, r0, u0⟩, hJ⟩ : ∃ J, P.jobs q = J := ⟨_, rfl⟩
  have HJ := Lib.hid hJ
  rw [HP.out, hJ] at hs
  dsimp only at hs
  have hs1 : (s0 != 0) = false := by simpa using hs
  have hx : X = (P.set q ⟨1, 0, 0, 0⟩, ⟨0, 0, 0⟩) := by
    rw [← HX.out]
    refine did_of HO.out ?_ rfl
    dsimp only
    rw [HP.out]
    simp [Tbl.act, hJ, hs]
  subst hx
  have HS := Lib.hid hs; clear hs
  clear hJ
  go_upto_region 14 with (refine wpList_store_whole rfl 96 _ _ rfl w2.heap.size (tcells P) rfl rfl (BlockAt.new w2 96 (tcells Tbl.zero)) (by simp [tcells_len]) (by kernel_rfl) (tcells_ones P) ?_; intro w3 h1' h2' h3'; have H3 := Lib.hid ((H2.out.allocB 96 (tcells Tbl.zero)).grown h2' h1'); have Q3 := Lib.hid ((Q2.out.alloc (.cells (tcells Tbl.zero).toArray 96)).trans (Quiet.grown h2')); have x1 := H3.out.right.right.right.bl.cells; have HS4 := Lib.hid H3.out.bl; clear h1' h2' h3')
  obtain ⟨c0, c1, c2, c3⟩ := HS4.out.job hq6
  rw [HJ.out] at c0 c1 c2 c3
  dsimp only at c0 c1 c2 c3
  go_upto_region 15 with fail
  have h4 := (H3.out.boxB (ty := 92) (cs := [.int .i64 s0, .int .i64 k0, .int .i64 r0, .int .i64 u0]) rfl)
  have q4 := (Q3.out.alloc (.cells ([.int .i64 s0, .int .i64 k0, .int .i64 r0, .int .i64 u0] : List Value).toArray 92))
  obtain ⟨w4, hw4⟩ : ∃ w4, w3.alloc (.cells ([.int .i64 s0, .int .i64 k0, .int .i64 r0, .int .i64 u0] : List Value).toArray 92) = w4 := ⟨_, rfl⟩
  obtain ⟨bj, hbj⟩ : ∃ bj, w3.heap.size = bj := ⟨_, rfl⟩
  obtain ⟨b4, hb4⟩ : ∃ b4, w2.heap.size = b4 := ⟨_, rfl⟩
  rw [hw4, hbj] at h4
  rw [hb4] at h4
  rw [hw4] at q4
  have hw4' : w3.alloc (.cells #[.int .i64 s0, .int .i64 k0, .int .i64 r0, .int .i64 u0] 92) = w4 := hw4
  rw [hw4', hbj, hb4]
  clear c0 c1 c2 c3 HS4 x1 hw4 hw4' hbj hb4 H3 Q3 H2 Q2
  have x1 := h4.right.right.right.right.bl.cells
  have xj := h4.bl.cells
  have HS4 := Lib.hid h4.two.bl
  have f4 := HS4.out.frees
  have l4 := HS4.out.lt
  have lj := h4.bl.lt
  obtain ⟨c0, c1, c2, c3⟩ := HS4.out.job hq6
  rw [HJ.out] at c0 c1 c2 c3
  dsimp only at c0 c1 c2 c3
  have H4 := Lib.hid h4; have Q4 := Lib.hid q4; clear h4 q4
  go_upto_region 19 with fail
  have hg : Holds ((((w4.setCell ⟨b4, q * 4, none⟩ (.int .i64 1)).setCell ⟨b4, q * 4 + 1, none⟩ (.int .i64 0)).setCell ⟨b4, q * 4 + 2, none⟩ (.int .i64 0)).setCell ⟨b4, q * 4 + 3, none⟩ (.int .i64 0)) _ := Holds.setJob H4.out.two hq6 ⟨1, 0, 0, 0⟩
  have qg := ((((Q4.out.setCell ⟨b4, q * 4, none⟩ (.int .i64 1)).setCell ⟨b4, q * 4 + 1, none⟩ (.int .i64 0)).setCell ⟨b4, q * 4 + 2, none⟩ (.int .i64 0)).setCell ⟨b4, q * 4 + 3, none⟩ (.int .i64 0))
  obtain ⟨PT, hPT⟩ : ∃ PT, P.set q ⟨1, 0, 0, 0⟩ = PT := ⟨_, rfl⟩
  obtain ⟨we, hwe⟩ : ∃ we, ((((w4.setCell ⟨b4, q * 4, none⟩ (.int .i64 1)).setCell ⟨b4, q * 4 + 1, none⟩ (.int .i64 0)).setCell ⟨b4, q * 4 + 2, none⟩ (.int .i64 0)).setCell ⟨b4, q * 4 + 3, none⟩ (.int .i64 0)) = we := ⟨_, rfl⟩
  rw [hwe, hPT] at hg
  rw [hwe] at qg ⊢
  have HG := Lib.hid hg; have QG := Lib.hid qg; have HPT := Lib.hid hPT
  clear hg qg hPT hwe x1 xj f4 l4 lj HS4 c0 c1 c2 c3
  go_wp2_with (first | (refine wpList_load_whole rfl 96 _ rfl b4 rfl (tcells PT) HG.out.tb Tryz.underlying96 rfl (by kernel_rfl) ?_) | (refine wpList_store_whole rfl 96 _ _ rfl (w.heap.size + 1 + 1) (tcells PT) rfl rfl HG.out.four.bl (by simp [tcells_len]) (by kernel_rfl) (tcells_ones PT) ?_; intro w' h1' h2' h3'; have HE := Lib.hid (HG.out.four.grown h2' h1').four; have QE := Lib.hid (Quiet.grown h2'); have fe := HE.out.bl.frees; have ce := HE.out.bl.cells; have le := HE.out.bl.lt; clear h1' h2' h3'))
  have hf := ((HE.out.setB 0 (.int .i64 0)).setB 1 (.int .i64 0)).setB 2 (.int .i64 0)
  have hl1 := run_load_part (P := Tryz.prog) (off := 0) (ty := 88) (vs := [.int .i64 0, .int .i64 0, .int .i64 0]) hf.bl rfl Tryz.underlying88 rfl (by kernel_rfl)
  have hl2 := run_load_part (P := Tryz.prog) (off := 0) (ty := 96) (vs := tcells PT) hf.two.bl (by simp) Tryz.underlying96 rfl (by kernel_rfl)
  exact bodyPost_ret (results_cell2 rfl rfl rfl hl2 hl1) rfl ⟨by rw [← HPT.out], hf.right.right.right.right.right.right.toBelow' ((((QG.out.trans QE.out).setCell _ _).setCell _ _).setCell _ _)⟩
end Go.Proofs.YtfihmpkkpgmdhaaGreatDoor

/-
  The document's board, walked: Did.
-/
namespace Go.Proofs.YtfihmpkkpgmdhaaGreatDoor
set_option linter.unusedSimpArgs false
set_option linter.unusedVariables false
open Go.RowKit
set_option maxRecDepth 100000 in
set_option maxHeartbeats 4000000 in
theorem bdid_abs (t : Tbl) (kd nw tr wk tm : Int) (q : Nat) (w : World) (hok : t.Ok) (ho : chk ⟨kd, nw, (q : Int), tr, wk, tm⟩ = 0) (hq6 : q < 6) (hk : kd = 3 ∨ kd = 4 ∨ kd = 5) (hs : ((t.pass nw).jobs q).st = 0) : Calls Tryz.prog 93 #[.agg (tcells t).toArray, .agg #[.int .i64 kd, .int .i64 nw, .int .i64 (q : Int), .int .i64 tr, .int .i64 wk, .int .i64 tm]] w (DidPost w (t.did ⟨kd, nw, (q : Int), tr, wk, tm⟩)) := by
  have HO := Lib.hid ho; clear ho
  have hok' := pass_ok hok (chk_more HO.out).1.2
  have HOK := Lib.hid hok'; clear hok hok'
  have htm0 := (chk_zero HO.out).2.2.2.1
  have htm1 := (chk_zero HO.out).2.2.2.2
  dsimp only at htm0 htm1
  obtain ⟨X, hX⟩ : ∃ X, t.did ⟨kd, nw, (q : Int), tr, wk, tm⟩ = X := ⟨_, rfl⟩
  rw [hX]
  have HX := Lib.hid hX; clear hX
  have h0 := ((((Holds.old (w := w)).boxB (ty := 96) (cs := tcells t) rfl).boxB (ty := 84) (cs := [.int .i64 kd, .int .i64 nw, .int .i64 (q : Int), .int .i64 tr, .int .i64 wk, .int .i64 tm]) (g := w.heap.size + 1) (by simp)).boxB (ty := 96) (cs := tcells Tbl.zero) (g := w.heap.size + 1 + 1) (by simp)).boxB (ty := 88) (cs := [.int .i64 0, .int .i64 0, .int .i64 0]) (g := w.heap.size + 1 + 1 + 1) (by simp)
  have H0 := Lib.hid h0; clear h0
  have q0 := ((((Quiet.refl w).alloc (.cells (tcells t).toArray 96)).alloc (.cells ([.int .i64 kd, .int .i64 nw, .int .i64 (q : Int), .int .i64 tr, .int .i64 wk, .int .i64 tm] : List Value).toArray 84)).alloc (.cells (tcells Tbl.zero).toArray 96)).alloc (.cells ([.int .i64 0, .int .i64 0, .int .i64 0] : List Value).toArray 88)
  have Q0 := Lib.hid q0; clear q0
  go_enter Tryz.func93, Tryz.ntmps93
  go_wp2_with fail
  refine (ofault_any kd nw (q : Int) tr wk tm _).mono ?_
  rw [HO.out]
  rintro e w1 ⟨rfl, hb1⟩
  have H1 := Lib.hid (H0.out.below hb1); have Q1 := Lib.hid (Q0.out.trans (Quiet.below hb1)); clear hb1 H0 Q0
  have x1 := H1.out.right.right.bl.cells
  have HS0 := Lib.hid H1.out.right.right.right.bl
  go_wp2_with (refine wpList_load_whole rfl 96 _ rfl w.heap.size rfl (tcells t) HS0.out Tryz.underlying96 rfl (by kernel_rfl) ?_)
  refine (later_any t nw _).mono ?_
  rintro e w2 ⟨rfl, hb2⟩
  obtain ⟨P, hP⟩ : ∃ P, t.pass nw = P := ⟨_, rfl⟩
  rw [hP]
  have HP := Lib.hid hP; clear hP
  have H2 := Lib.hid (H1.out.below hb2); have Q2 := Lib.hid (Q1.out.trans (Quiet.below hb2)); clear hb2 x1 HS0 H1 Q1
  rw [HP.out] at HOK
  have hn0 := HOK.out.now.1
  have hn1 := HOK.out.now.2
  obtain ⟨⟨s0, k0, r0, u0⟩, hJ⟩ : ∃ J, P.jobs q = J := ⟨_, rfl⟩
  have HJ := Lib.hid hJ
  rw [HP.out, hJ] at hs
  dsimp only at hs
  have hk1 : (kd == 1) = false := by simp only [beq_eq_false_iff_ne, ne_eq]; omega
  have hk2 : (kd == 2) = false := by simp only [beq_eq_false_iff_ne, ne_eq]; omega
  have hs1 : (s0 == 0) = true := by simpa using hs
  have hx : X = (t, ⟨5, 0, 0⟩) := by
    rw [← HX.out]
    refine did_not HO.out (p := P) ?_ (by simp)
    dsimp only
    rw [HP.out]
    exact act_absent _ _ _ _ _ _ _ hk (by simpa [hJ] using hs)
  subst hx
  have HK := Lib.hid hk; have HS := Lib.hid hs; clear hk hs
  clear hJ
  go_upto_region 14 with (refine wpList_store_whole rfl 96 _ _ rfl w2.heap.size (tcells P) rfl rfl (BlockAt.new w2 96 (tcells Tbl.zero)) (by simp [tcells_len]) (by kernel_rfl) (tcells_ones P) ?_; intro w3 h1' h2' h3'; have H3 := Lib.hid ((H2.out.allocB 96 (tcells Tbl.zero)).grown h2' h1'); have Q3 := Lib.hid ((Q2.out.alloc (.cells (tcells Tbl.zero).toArray 96)).trans (Quiet.grown h2')); have x1 := H3.out.right.right.right.bl.cells; have HS4 := Lib.hid H3.out.bl; clear h1' h2' h3')
  obtain ⟨c0, c1, c2, c3⟩ := HS4.out.job hq6
  rw [HJ.out] at c0 c1 c2 c3
  dsimp only at c0 c1 c2 c3
  go_upto_region 15 with fail
  have h4 := (H3.out.boxB (ty := 92) (cs := [.int .i64 s0, .int .i64 k0, .int .i64 r0, .int .i64 u0]) rfl)
  have q4 := (Q3.out.alloc (.cells ([.int .i64 s0, .int .i64 k0, .int .i64 r0, .int .i64 u0] : List Value).toArray 92))
  obtain ⟨w4, hw4⟩ : ∃ w4, w3.alloc (.cells ([.int .i64 s0, .int .i64 k0, .int .i64 r0, .int .i64 u0] : List Value).toArray 92) = w4 := ⟨_, rfl⟩
  obtain ⟨bj, hbj⟩ : ∃ bj, w3.heap.size = bj := ⟨_, rfl⟩
  obtain ⟨b4, hb4⟩ : ∃ b4, w2.heap.size = b4 := ⟨_, rfl⟩
  rw [hw4, hbj] at h4
  rw [hb4] at h4
  rw [hw4] at q4
  have hw4' : w3.alloc (.cells #[.int .i64 s0, .int .i64 k0, .int .i64 r0, .int .i64 u0] 92) = w4 := hw4
  rw [hw4', hbj, hb4]
  clear c0 c1 c2 c3 HS4 x1 hw4 hw4' hbj hb4 H3 Q3 H2 Q2
  have x1 := h4.right.right.right.right.bl.cells
  have xj := h4.bl.cells
  have HS4 := Lib.hid h4.two.bl
  have f4 := HS4.out.frees
  have l4 := HS4.out.lt
  have lj := h4.bl.lt
  obtain ⟨c0, c1, c2, c3⟩ := HS4.out.job hq6
  rw [HJ.out] at c0 c1 c2 c3
  dsimp only at c0 c1 c2 c3
  have H4 := Lib.hid h4; have Q4 := Lib.hid q4; clear h4 q4
  go_wp2_with (first | (refine wpList_load_whole rfl 96 _ rfl w.heap.size rfl (tcells t) H4.out.right.right.right.right.right.bl Tryz.underlying96 rfl (by kernel_rfl) ?_) | (refine wpList_store_whole rfl 96 _ _ rfl (w.heap.size + 1 + 1) (tcells t) rfl rfl H4.out.four.bl (by simp [tcells_len]) (by kernel_rfl) (tcells_ones t) ?_; intro w' h1' h2' h3'; have HE := Lib.hid (H4.out.four.grown h2' h1').four; have QE := Lib.hid (Quiet.grown h2'); have fe := HE.out.bl.frees; have ce := HE.out.bl.cells; have le := HE.out.bl.lt; clear h1' h2' h3'))
  have hf := ((HE.out.setB 0 (.int .i64 5)).setB 1 (.int .i64 0)).setB 2 (.int .i64 0)
  have hl1 := run_load_part (P := Tryz.prog) (off := 0) (ty := 88) (vs := [.int .i64 5, .int .i64 0, .int .i64 0]) hf.bl rfl Tryz.underlying88 rfl (by kernel_rfl)
  have hl2 := run_load_part (P := Tryz.prog) (off := 0) (ty := 96) (vs := tcells t) hf.two.bl (by simp) Tryz.underlying96 rfl (by kernel_rfl)
  exact bodyPost_ret (results_cell2 rfl rfl rfl hl2 hl1) rfl ⟨rfl, hf.right.right.right.right.right.right.toBelow' ((((Q4.out.trans QE.out).setCell _ _).setCell _ _).setCell _ _)⟩
set_option maxRecDepth 100000 in
set_option maxHeartbeats 4000000 in
theorem bdid_else (t : Tbl) (kd nw tr wk tm : Int) (q : Nat) (w : World) (hok : t.Ok) (ho : chk ⟨kd, nw, (q : Int), tr, wk, tm⟩ = 0) (hq6 : q < 6) (hk : kd = 3 ∨ kd = 4 ∨ kd = 5) (hs : ((t.pass nw).jobs q).st ≠ 0) (ho2 : ((t.pass nw).jobs q).st ≠ 2 ∨ ((t.pass nw).jobs q).wk ≠ wk ∨ ((t.pass nw).jobs q).tr ≠ tr) : Calls Tryz.prog 93 #[.agg (tcells t).toArray, .agg #[.int .i64 kd, .int .i64 nw, .int .i64 (q : Int), .int .i64 tr, .int .i64 wk, .int .i64 tm]] w (DidPost w (t.did ⟨kd, nw, (q : Int), tr, wk, tm⟩)) := by
  have HO := Lib.hid ho; clear ho
  have hok' := pass_ok hok (chk_more HO.out).1.2
  have HOK := Lib.hid hok'; clear hok hok'
  have htm0 := (chk_zero HO.out).2.2.2.1
  have htm1 := (chk_zero HO.out).2.2.2.2
  dsimp only at htm0 htm1
  obtain ⟨X, hX⟩ : ∃ X, t.did ⟨kd, nw, (q : Int), tr, wk, tm⟩ = X := ⟨_, rfl⟩
  rw [hX]
  have HX := Lib.hid hX; clear hX
  have h0 := ((((Holds.old (w := w)).boxB (ty := 96) (cs := tcells t) rfl).boxB (ty := 84) (cs := [.int .i64 kd, .int .i64 nw, .int .i64 (q : Int), .int .i64 tr, .int .i64 wk, .int .i64 tm]) (g := w.heap.size + 1) (by simp)).boxB (ty := 96) (cs := tcells Tbl.zero) (g := w.heap.size + 1 + 1) (by simp)).boxB (ty := 88) (cs := [.int .i64 0, .int .i64 0, .int .i64 0]) (g := w.heap.size + 1 + 1 + 1) (by simp)
  have H0 := Lib.hid h0; clear h0
  have q0 := ((((Quiet.refl w).alloc (.cells (tcells t).toArray 96)).alloc (.cells ([.int .i64 kd, .int .i64 nw, .int .i64 (q : Int), .int .i64 tr, .int .i64 wk, .int .i64 tm] : List Value).toArray 84)).alloc (.cells (tcells Tbl.zero).toArray 96)).alloc (.cells ([.int .i64 0, .int .i64 0, .int .i64 0] : List Value).toArray 88)
  have Q0 := Lib.hid q0; clear q0
  go_enter Tryz.func93, Tryz.ntmps93
  go_wp2_with fail
  refine (ofault_any kd nw (q : Int) tr wk tm _).mono ?_
  rw [HO.out]
  rintro e w1 ⟨rfl, hb1⟩
  have H1 := Lib.hid (H0.out.below hb1); have Q1 := Lib.hid (Q0.out.trans (Quiet.below hb1)); clear hb1 H0 Q0
  have x1 := H1.out.right.right.bl.cells
  have HS0 := Lib.hid H1.out.right.right.right.bl
  go_wp2_with (refine wpList_load_whole rfl 96 _ rfl w.heap.size rfl (tcells t) HS0.out Tryz.underlying96 rfl (by kernel_rfl) ?_)
  refine (later_any t nw _).mono ?_
  rintro e w2 ⟨rfl, hb2⟩
  obtain ⟨P, hP⟩ : ∃ P, t.pass nw = P := ⟨_, rfl⟩
  rw [hP]
  have HP := Lib.hid hP; clear hP
  have H2 := Lib.hid (H1.out.below hb2); have Q2 := Lib.hid (Q1.out.trans (Quiet.below hb2)); clear hb2 x1 HS0 H1 Q1
  rw [HP.out] at HOK
  have hn0 := HOK.out.now.1
  have hn1 := HOK.out.now.2
  obtain ⟨⟨s0, k0, r0, u0⟩, hJ⟩ : ∃ J, P.jobs q = J := ⟨_, rfl⟩
  have HJ := Lib.hid hJ
  rw [HP.out, hJ] at hs
  dsimp only at hs
  rw [HP.out, hJ] at ho2
  dsimp only at ho2
  have hk1 : (kd == 1) = false := by simp only [beq_eq_false_iff_ne, ne_eq]; omega
  have hk2 : (kd == 2) = false := by simp only [beq_eq_false_iff_ne, ne_eq]; omega
  have hs1 : (s0 == 0) = false := by simpa using hs
  have hx : X = (t, ⟨6, 0, 0⟩) := by
    rw [← HX.out]
    refine did_not HO.out (p := P) ?_ (by simp)
    dsimp only
    rw [HP.out]
    exact act_else _ _ _ _ _ _ _ hk (by simpa [hJ] using hs) (by simpa [hJ] using ho2)
  subst hx
  have HK := Lib.hid hk; have HS := Lib.hid hs; clear hk hs
  have HO2 := Lib.hid ho2; clear ho2
  clear hJ
  go_upto_region 14 with (refine wpList_store_whole rfl 96 _ _ rfl w2.heap.size (tcells P) rfl rfl (BlockAt.new w2 96 (tcells Tbl.zero)) (by simp [tcells_len]) (by kernel_rfl) (tcells_ones P) ?_; intro w3 h1' h2' h3'; have H3 := Lib.hid ((H2.out.allocB 96 (tcells Tbl.zero)).grown h2' h1'); have Q3 := Lib.hid ((Q2.out.alloc (.cells (tcells Tbl.zero).toArray 96)).trans (Quiet.grown h2')); have x1 := H3.out.right.right.right.bl.cells; have HS4 := Lib.hid H3.out.bl; clear h1' h2' h3')
  obtain ⟨c0, c1, c2, c3⟩ := HS4.out.job hq6
  rw [HJ.out] at c0 c1 c2 c3
  dsimp only at c0 c1 c2 c3
  go_upto_region 15 with fail
  have h4 := (H3.out.boxB (ty := 92) (cs := [.int .i64 s0, .int .i64 k0, .int .i64 r0, .int .i64 u0]) rfl)
  have q4 := (Q3.out.alloc (.cells ([.int .i64 s0, .int .i64 k0, .int .i64 r0, .int .i64 u0] : List Value).toArray 92))
  obtain ⟨w4, hw4⟩ : ∃ w4, w3.alloc (.cells ([.int .i64 s0, .int .i64 k0, .int .i64 r0, .int .i64 u0] : List Value).toArray 92) = w4 := ⟨_, rfl⟩
  obtain ⟨bj, hbj⟩ : ∃ bj, w3.heap.size = bj := ⟨_, rfl⟩
  obtain ⟨b4, hb4⟩ : ∃ b4, w2.heap.size = b4 := ⟨_, rfl⟩
  rw [hw4, hbj] at h4
  rw [hb4] at h4
  rw [hw4] at q4
  have hw4' : w3.alloc (.cells #[.int .i64 s0, .int .i64 k0, .int .i64 r0, .int .i64 u0] 92) = w4 := hw4
  rw [hw4', hbj, hb4]
  clear c0 c1 c2 c3 HS4 x1 hw4 hw4' hbj hb4 H3 Q3 H2 Q2
  have x1 := h4.right.right.right.right.bl.cells
  have xj := h4.bl.cells
  have HS4 := Lib.hid h4.two.bl
  have f4 := HS4.out.frees
  have l4 := HS4.out.lt
  have lj := h4.bl.lt
  obtain ⟨c0, c1, c2, c3⟩ := HS4.out.job hq6
  rw [HJ.out] at c0 c1 c2 c3
  dsimp only at c0 c1 c2 c3
  have H4 := Lib.hid h4; have Q4 := Lib.hid q4; clear h4 q4
  by_cases g1 : s0 = 2
  · have hs2 : (s0 != 2) = false := by simpa using g1
    by_cases g2 : k0 = wk
    · have hs3 : (k0 != wk) = false := by simpa using g2
      have g3 : r0 ≠ tr := by
        rcases HO2.out with g | g | g
        · exact absurd g1 g
        · exact absurd g2 g
        · exact g
      have hs4 : (r0 != tr) = true := by simpa using g3
      clear g1 g2 g3
      go_wp2_with (first | (refine wpList_load_whole rfl 96 _ rfl w.heap.size rfl (tcells t) H4.out.right.right.right.right.right.bl Tryz.underlying96 rfl (by kernel_rfl) ?_) | (refine wpList_store_whole rfl 96 _ _ rfl (w.heap.size + 1 + 1) (tcells t) rfl rfl H4.out.four.bl (by simp [tcells_len]) (by kernel_rfl) (tcells_ones t) ?_; intro w' h1' h2' h3'; have HE := Lib.hid (H4.out.four.grown h2' h1').four; have QE := Lib.hid (Quiet.grown h2'); have fe := HE.out.bl.frees; have ce := HE.out.bl.cells; have le := HE.out.bl.lt; clear h1' h2' h3'))
      have hf := ((HE.out.setB 0 (.int .i64 6)).setB 1 (.int .i64 0)).setB 2 (.int .i64 0)
      have hl1 := run_load_part (P := Tryz.prog) (off := 0) (ty := 88) (vs := [.int .i64 6, .int .i64 0, .int .i64 0]) hf.bl rfl Tryz.underlying88 rfl (by kernel_rfl)
      have hl2 := run_load_part (P := Tryz.prog) (off := 0) (ty := 96) (vs := tcells t) hf.two.bl (by simp) Tryz.underlying96 rfl (by kernel_rfl)
      exact bodyPost_ret (results_cell2 rfl rfl rfl hl2 hl1) rfl ⟨rfl, hf.right.right.right.right.right.right.toBelow' ((((Q4.out.trans QE.out).setCell _ _).setCell _ _).setCell _ _)⟩
    · have hs3 : (k0 != wk) = true := by simpa using g2
      clear g1 g2
      go_wp2_with (first | (refine wpList_load_whole rfl 96 _ rfl w.heap.size rfl (tcells t) H4.out.right.right.right.right.right.bl Tryz.underlying96 rfl (by kernel_rfl) ?_) | (refine wpList_store_whole rfl 96 _ _ rfl (w.heap.size + 1 + 1) (tcells t) rfl rfl H4.out.four.bl (by simp [tcells_len]) (by kernel_rfl) (tcells_ones t) ?_; intro w' h1' h2' h3'; have HE := Lib.hid (H4.out.four.grown h2' h1').four; have QE := Lib.hid (Quiet.grown h2'); have fe := HE.out.bl.frees; have ce := HE.out.bl.cells; have le := HE.out.bl.lt; clear h1' h2' h3'))
      have hf := ((HE.out.setB 0 (.int .i64 6)).setB 1 (.int .i64 0)).setB 2 (.int .i64 0)
      have hl1 := run_load_part (P := Tryz.prog) (off := 0) (ty := 88) (vs := [.int .i64 6, .int .i64 0, .int .i64 0]) hf.bl rfl Tryz.underlying88 rfl (by kernel_rfl)
      have hl2 := run_load_part (P := Tryz.prog) (off := 0) (ty := 96) (vs := tcells t) hf.two.bl (by simp) Tryz.underlying96 rfl (by kernel_rfl)
      exact bodyPost_ret (results_cell2 rfl rfl rfl hl2 hl1) rfl ⟨rfl, hf.right.right.right.right.right.right.toBelow' ((((Q4.out.trans QE.out).setCell _ _).setCell _ _).setCell _ _)⟩
  · have hs2 : (s0 != 2) = true := by simpa using g1
    clear g1
    go_wp2_with (first | (refine wpList_load_whole rfl 96 _ rfl w.heap.size rfl (tcells t) H4.out.right.right.right.right.right.bl Tryz.underlying96 rfl (by kernel_rfl) ?_) | (refine wpList_store_whole rfl 96 _ _ rfl (w.heap.size + 1 + 1) (tcells t) rfl rfl H4.out.four.bl (by simp [tcells_len]) (by kernel_rfl) (tcells_ones t) ?_; intro w' h1' h2' h3'; have HE := Lib.hid (H4.out.four.grown h2' h1').four; have QE := Lib.hid (Quiet.grown h2'); have fe := HE.out.bl.frees; have ce := HE.out.bl.cells; have le := HE.out.bl.lt; clear h1' h2' h3'))
    have hf := ((HE.out.setB 0 (.int .i64 6)).setB 1 (.int .i64 0)).setB 2 (.int .i64 0)
    have hl1 := run_load_part (P := Tryz.prog) (off := 0) (ty := 88) (vs := [.int .i64 6, .int .i64 0, .int .i64 0]) hf.bl rfl Tryz.underlying88 rfl (by kernel_rfl)
    have hl2 := run_load_part (P := Tryz.prog) (off := 0) (ty := 96) (vs := tcells t) hf.two.bl (by simp) Tryz.underlying96 rfl (by kernel_rfl)
    exact bodyPost_ret (results_cell2 rfl rfl rfl hl2 hl1) rfl ⟨rfl, hf.right.right.right.right.right.right.toBelow' ((((Q4.out.trans QE.out).setCell _ _).setCell _ _).setCell _ _)⟩
end Go.Proofs.YtfihmpkkpgmdhaaGreatDoor

/-
  The document's board, walked: Did.
-/
namespace Go.Proofs.YtfihmpkkpgmdhaaGreatDoor
set_option linter.unusedSimpArgs false
set_option linter.unusedVariables false
open Go.RowKit
set_option maxRecDepth 100000 in
set_option maxHeartbeats 4000000 in
theorem bdid_renew (t : Tbl) (nw tr wk tm : Int) (q : Nat) (w : World) (hok : t.Ok) (ho : chk ⟨3, nw, (q : Int), tr, wk, tm⟩ = 0) (hq6 : q < 6) (h1 : ((t.pass nw).jobs q).st = 2) (h2 : ((t.pass nw).jobs q).wk = wk) (h3 : ((t.pass nw).jobs q).tr = tr) : Calls Tryz.prog 93 #[.agg (tcells t).toArray, .agg #[.int .i64 3, .int .i64 nw, .int .i64 (q : Int), .int .i64 tr, .int .i64 wk, .int .i64 tm]] w (DidPost w (t.did ⟨3, nw, (q : Int), tr, wk, tm⟩)) := by
  have HO := Lib.hid ho; clear ho
  have hok' := pass_ok hok (chk_more HO.out).1.2
  have HOK := Lib.hid hok'; clear hok hok'
  have htm0 := (chk_zero HO.out).2.2.2.1
  have htm1 := (chk_zero HO.out).2.2.2.2
  dsimp only at htm0 htm1
  obtain ⟨X, hX⟩ : ∃ X, t.did ⟨3, nw, (q : Int), tr, wk, tm⟩ = X := ⟨_, rfl⟩
  rw [hX]
  have HX := Lib.hid hX; clear hX
  have h0 := ((((Holds.old (w := w)).boxB (ty := 96) (cs := tcells t) rfl).boxB (ty := 84) (cs := [.int .i64 3, .int .i64 nw, .int .i64 (q : Int), .int .i64 tr, .int .i64 wk, .int .i64 tm]) (g := w.heap.size + 1) (by simp)).boxB (ty := 96) (cs := tcells Tbl.zero) (g := w.heap.size + 1 + 1) (by simp)).boxB (ty := 88) (cs := [.int .i64 0, .int .i64 0, .int .i64 0]) (g := w.heap.size + 1 + 1 + 1) (by simp)
  have H0 := Lib.hid h0; clear h0
  have q0 := ((((Quiet.refl w).alloc (.cells (tcells t).toArray 96)).alloc (.cells ([.int .i64 3, .int .i64 nw, .int .i64 (q : Int), .int .i64 tr, .int .i64 wk, .int .i64 tm] : List Value).toArray 84)).alloc (.cells (tcells Tbl.zero).toArray 96)).alloc (.cells ([.int .i64 0, .int .i64 0, .int .i64 0] : List Value).toArray 88)
  have Q0 := Lib.hid q0; clear q0
  go_enter Tryz.func93, Tryz.ntmps93
  go_wp2_with fail
  refine (ofault_any 3 nw (q : Int) tr wk tm _).mono ?_
  rw [HO.out]
  rintro e w1 ⟨rfl, hb1⟩
  have H1 := Lib.hid (H0.out.below hb1); have Q1 := Lib.hid (Q0.out.trans (Quiet.below hb1)); clear hb1 H0 Q0
  have x1 := H1.out.right.right.bl.cells
  have HS0 := Lib.hid H1.out.right.right.right.bl
  go_wp2_with (refine wpList_load_whole rfl 96 _ rfl w.heap.size rfl (tcells t) HS0.out Tryz.underlying96 rfl (by kernel_rfl) ?_)
  refine (later_any t nw _).mono ?_
  rintro e w2 ⟨rfl, hb2⟩
  obtain ⟨P, hP⟩ : ∃ P, t.pass nw = P := ⟨_, rfl⟩
  rw [hP]
  have HP := Lib.hid hP; clear hP
  have H2 := Lib.hid (H1.out.below hb2); have Q2 := Lib.hid (Q1.out.trans (Quiet.below hb2)); clear hb2 x1 HS0 H1 Q1
  rw [HP.out] at HOK
  have hn0 := HOK.out.now.1
  have hn1 := HOK.out.now.2
  obtain ⟨⟨s0, k0, r0, u0⟩, hJ⟩ : ∃ J, P.jobs q = J := ⟨_, rfl⟩
  have HJ := Lib.hid hJ
  rw [HP.out, hJ] at h1 h2 h3
  dsimp only at h1 h2 h3
  have hs0 : (s0 == 0) = false := by rw [h1]; rfl
  have hs2 : (s0 != 2) = false := by rw [h1]; rfl
  have hs3 : (k0 != wk) = false := by rw [h2]; simp
  have hs4 : (r0 != tr) = false := by rw [h3]; simp
  have hx : X = (P.set q { P.jobs q with un := P.now + tm }, ⟨0, 0, 0⟩) := by
    rw [← HX.out]
    refine did_of HO.out ?_ rfl
    dsimp only
    rw [HP.out]
    rw [act_held _ _ _ _ _ _ _ (by simpa [hJ] using h1) (by simpa [hJ] using h2) (by simpa [hJ] using h3) (by simp)]; simp
  subst hx
  have HS1 := Lib.hid h1; have HS2 := Lib.hid h2; have HS3 := Lib.hid h3; clear h1 h2 h3
  clear hJ
  go_upto_region 14 with (refine wpList_store_whole rfl 96 _ _ rfl w2.heap.size (tcells P) rfl rfl (BlockAt.new w2 96 (tcells Tbl.zero)) (by simp [tcells_len]) (by kernel_rfl) (tcells_ones P) ?_; intro w3 h1' h2' h3'; have H3 := Lib.hid ((H2.out.allocB 96 (tcells Tbl.zero)).grown h2' h1'); have Q3 := Lib.hid ((Q2.out.alloc (.cells (tcells Tbl.zero).toArray 96)).trans (Quiet.grown h2')); have x1 := H3.out.right.right.right.bl.cells; have HS4 := Lib.hid H3.out.bl; clear h1' h2' h3')
  obtain ⟨c0, c1, c2, c3⟩ := HS4.out.job hq6
  rw [HJ.out] at c0 c1 c2 c3
  dsimp only at c0 c1 c2 c3
  go_upto_region 15 with fail
  have h4 := (H3.out.boxB (ty := 92) (cs := [.int .i64 s0, .int .i64 k0, .int .i64 r0, .int .i64 u0]) rfl)
  have q4 := (Q3.out.alloc (.cells ([.int .i64 s0, .int .i64 k0, .int .i64 r0, .int .i64 u0] : List Value).toArray 92))
  obtain ⟨w4, hw4⟩ : ∃ w4, w3.alloc (.cells ([.int .i64 s0, .int .i64 k0, .int .i64 r0, .int .i64 u0] : List Value).toArray 92) = w4 := ⟨_, rfl⟩
  obtain ⟨bj, hbj⟩ : ∃ bj, w3.heap.size = bj := ⟨_, rfl⟩
  obtain ⟨b4, hb4⟩ : ∃ b4, w2.heap.size = b4 := ⟨_, rfl⟩
  rw [hw4, hbj] at h4
  rw [hb4] at h4
  rw [hw4] at q4
  have hw4' : w3.alloc (.cells #[.int .i64 s0, .int .i64 k0, .int .i64 r0, .int .i64 u0] 92) = w4 := hw4
  rw [hw4', hbj, hb4]
  clear c0 c1 c2 c3 HS4 x1 hw4 hw4' hbj hb4 H3 Q3 H2 Q2
  have x1 := h4.right.right.right.right.bl.cells
  have xj := h4.bl.cells
  have HS4 := Lib.hid h4.two.bl
  have f4 := HS4.out.frees
  have l4 := HS4.out.lt
  have lj := h4.bl.lt
  obtain ⟨c0, c1, c2, c3⟩ := HS4.out.job hq6
  rw [HJ.out] at c0 c1 c2 c3
  dsimp only at c0 c1 c2 c3
  have H4 := Lib.hid h4; have Q4 := Lib.hid q4; clear h4 q4
  have c24 := HS4.out.cell 24 _ rfl
  go_upto_region 31 with fail
  have hg : Holds (w4.setCell ⟨b4, q * 4 + 3, none⟩ (.int .i64 (P.now + tm))) _ := Holds.setUnN H4.out.two hq6 (P.now + tm)
  have qg := (Q4.out.setCell ⟨b4, q * 4 + 3, none⟩ (.int .i64 (P.now + tm)))
  obtain ⟨PT, hPT⟩ : ∃ PT, P.set q { P.jobs q with un := P.now + tm } = PT := ⟨_, rfl⟩
  obtain ⟨we, hwe⟩ : ∃ we, (w4.setCell ⟨b4, q * 4 + 3, none⟩ (.int .i64 (P.now + tm))) = we := ⟨_, rfl⟩
  rw [hwe, hPT] at hg
  rw [hwe] at qg ⊢
  have HG := Lib.hid hg; have QG := Lib.hid qg; have HPT := Lib.hid hPT
  clear c24 hg qg hPT hwe x1 xj f4 l4 lj HS4 c0 c1 c2 c3
  go_wp2_with (first | (refine wpList_load_whole rfl 96 _ rfl b4 rfl (tcells PT) HG.out.tb Tryz.underlying96 rfl (by kernel_rfl) ?_) | (refine wpList_store_whole rfl 96 _ _ rfl (w.heap.size + 1 + 1) (tcells PT) rfl rfl HG.out.four.bl (by simp [tcells_len]) (by kernel_rfl) (tcells_ones PT) ?_; intro w' h1' h2' h3'; have HE := Lib.hid (HG.out.four.grown h2' h1').four; have QE := Lib.hid (Quiet.grown h2'); have fe := HE.out.bl.frees; have ce := HE.out.bl.cells; have le := HE.out.bl.lt; clear h1' h2' h3'))
  have hf := ((HE.out.setB 0 (.int .i64 0)).setB 1 (.int .i64 0)).setB 2 (.int .i64 0)
  have hl1 := run_load_part (P := Tryz.prog) (off := 0) (ty := 88) (vs := [.int .i64 0, .int .i64 0, .int .i64 0]) hf.bl rfl Tryz.underlying88 rfl (by kernel_rfl)
  have hl2 := run_load_part (P := Tryz.prog) (off := 0) (ty := 96) (vs := tcells PT) hf.two.bl (by simp) Tryz.underlying96 rfl (by kernel_rfl)
  exact bodyPost_ret (results_cell2 rfl rfl rfl hl2 hl1) rfl ⟨by rw [← HPT.out], hf.right.right.right.right.right.right.toBelow' ((((QG.out.trans QE.out).setCell _ _).setCell _ _).setCell _ _)⟩
end Go.Proofs.YtfihmpkkpgmdhaaGreatDoor

/-
  The document's board, walked: Did.
-/
namespace Go.Proofs.YtfihmpkkpgmdhaaGreatDoor
set_option linter.unusedSimpArgs false
set_option linter.unusedVariables false
open Go.RowKit
set_option maxRecDepth 100000 in
set_option maxHeartbeats 4000000 in
theorem bdid_done (t : Tbl) (nw tr wk tm : Int) (q : Nat) (w : World) (hok : t.Ok) (ho : chk ⟨4, nw, (q : Int), tr, wk, tm⟩ = 0) (hq6 : q < 6) (h1 : ((t.pass nw).jobs q).st = 2) (h2 : ((t.pass nw).jobs q).wk = wk) (h3 : ((t.pass nw).jobs q).tr = tr) : Calls Tryz.prog 93 #[.agg (tcells t).toArray, .agg #[.int .i64 4, .int .i64 nw, .int .i64 (q : Int), .int .i64 tr, .int .i64 wk, .int .i64 tm]] w (DidPost w (t.did ⟨4, nw, (q : Int), tr, wk, tm⟩)) := by
  have HO := Lib.hid ho; clear ho
  have hok' := pass_ok hok (chk_more HO.out).1.2
  have HOK := Lib.hid hok'; clear hok hok'
  have htm0 := (chk_zero HO.out).2.2.2.1
  have htm1 := (chk_zero HO.out).2.2.2.2
  dsimp only at htm0 htm1
  obtain ⟨X, hX⟩ : ∃ X, t.did ⟨4, nw, (q : Int), tr, wk, tm⟩ = X := ⟨_, rfl⟩
  rw [hX]
  have HX := Lib.hid hX; clear hX
  have h0 := ((((Holds.old (w := w)).boxB (ty := 96) (cs := tcells t) rfl).boxB (ty := 84) (cs := [.int .i64 4, .int .i64 nw, .int .i64 (q : Int), .int .i64 tr, .int .i64 wk, .int .i64 tm]) (g := w.heap.size + 1) (by simp)).boxB (ty := 96) (cs := tcells Tbl.zero) (g := w.heap.size + 1 + 1) (by simp)).boxB (ty := 88) (cs := [.int .i64 0, .int .i64 0, .int .i64 0]) (g := w.heap.size + 1 + 1 + 1) (by simp)
  have H0 := Lib.hid h0; clear h0
  have q0 := ((((Quiet.refl w).alloc (.cells (tcells t).toArray 96)).alloc (.cells ([.int .i64 4, .int .i64 nw, .int .i64 (q : Int), .int .i64 tr, .int .i64 wk, .int .i64 tm] : List Value).toArray 84)).alloc (.cells (tcells Tbl.zero).toArray 96)).alloc (.cells ([.int .i64 0, .int .i64 0, .int .i64 0] : List Value).toArray 88)
  have Q0 := Lib.hid q0; clear q0
  go_enter Tryz.func93, Tryz.ntmps93
  go_wp2_with fail
  refine (ofault_any 4 nw (q : Int) tr wk tm _).mono ?_
  rw [HO.out]
  rintro e w1 ⟨rfl, hb1⟩
  have H1 := Lib.hid (H0.out.below hb1); have Q1 := Lib.hid (Q0.out.trans (Quiet.below hb1)); clear hb1 H0 Q0
  have x1 := H1.out.right.right.bl.cells
  have HS0 := Lib.hid H1.out.right.right.right.bl
  go_wp2_with (refine wpList_load_whole rfl 96 _ rfl w.heap.size rfl (tcells t) HS0.out Tryz.underlying96 rfl (by kernel_rfl) ?_)
  refine (later_any t nw _).mono ?_
  rintro e w2 ⟨rfl, hb2⟩
  obtain ⟨P, hP⟩ : ∃ P, t.pass nw = P := ⟨_, rfl⟩
  rw [hP]
  have HP := Lib.hid hP; clear hP
  have H2 := Lib.hid (H1.out.below hb2); have Q2 := Lib.hid (Q1.out.trans (Quiet.below hb2)); clear hb2 x1 HS0 H1 Q1
  rw [HP.out] at HOK
  have hn0 := HOK.out.now.1
  have hn1 := HOK.out.now.2
  obtain ⟨⟨s0, k0, r0, u0⟩, hJ⟩ : ∃ J, P.jobs q = J := ⟨_, rfl⟩
  have HJ := Lib.hid hJ
  rw [HP.out, hJ] at h1 h2 h3
  dsimp only at h1 h2 h3
  have hs0 : (s0 == 0) = false := by rw [h1]; rfl
  have hs2 : (s0 != 2) = false := by rw [h1]; rfl
  have hs3 : (k0 != wk) = false := by rw [h2]; simp
  have hs4 : (r0 != tr) = false := by rw [h3]; simp
  have hx : X = (P.set q ⟨3, k0, r0, 0⟩, ⟨0, 0, 0⟩) := by
    rw [← HX.out]
    refine did_of HO.out ?_ rfl
    dsimp only
    rw [HP.out]
    rw [act_held _ _ _ _ _ _ _ (by simpa [hJ] using h1) (by simpa [hJ] using h2) (by simpa [hJ] using h3) (by simp)]; simp [hJ]
  subst hx
  have HS1 := Lib.hid h1; have HS2 := Lib.hid h2; have HS3 := Lib.hid h3; clear h1 h2 h3
  clear hJ
  go_upto_region 14 with (refine wpList_store_whole rfl 96 _ _ rfl w2.heap.size (tcells P) rfl rfl (BlockAt.new w2 96 (tcells Tbl.zero)) (by simp [tcells_len]) (by kernel_rfl) (tcells_ones P) ?_; intro w3 h1' h2' h3'; have H3 := Lib.hid ((H2.out.allocB 96 (tcells Tbl.zero)).grown h2' h1'); have Q3 := Lib.hid ((Q2.out.alloc (.cells (tcells Tbl.zero).toArray 96)).trans (Quiet.grown h2')); have x1 := H3.out.right.right.right.bl.cells; have HS4 := Lib.hid H3.out.bl; clear h1' h2' h3')
  obtain ⟨c0, c1, c2, c3⟩ := HS4.out.job hq6
  rw [HJ.out] at c0 c1 c2 c3
  dsimp only at c0 c1 c2 c3
  go_upto_region 15 with fail
  have h4 := (H3.out.boxB (ty := 92) (cs := [.int .i64 s0, .int .i64 k0, .int .i64 r0, .int .i64 u0]) rfl)
  have q4 := (Q3.out.alloc (.cells ([.int .i64 s0, .int .i64 k0, .int .i64 r0, .int .i64 u0] : List Value).toArray 92))
  obtain ⟨w4, hw4⟩ : ∃ w4, w3.alloc (.cells ([.int .i64 s0, .int .i64 k0, .int .i64 r0, .int .i64 u0] : List Value).toArray 92) = w4 := ⟨_, rfl⟩
  obtain ⟨bj, hbj⟩ : ∃ bj, w3.heap.size = bj := ⟨_, rfl⟩
  obtain ⟨b4, hb4⟩ : ∃ b4, w2.heap.size = b4 := ⟨_, rfl⟩
  rw [hw4, hbj] at h4
  rw [hb4] at h4
  rw [hw4] at q4
  have hw4' : w3.alloc (.cells #[.int .i64 s0, .int .i64 k0, .int .i64 r0, .int .i64 u0] 92) = w4 := hw4
  rw [hw4', hbj, hb4]
  clear c0 c1 c2 c3 HS4 x1 hw4 hw4' hbj hb4 H3 Q3 H2 Q2
  have x1 := h4.right.right.right.right.bl.cells
  have xj := h4.bl.cells
  have HS4 := Lib.hid h4.two.bl
  have f4 := HS4.out.frees
  have l4 := HS4.out.lt
  have lj := h4.bl.lt
  obtain ⟨c0, c1, c2, c3⟩ := HS4.out.job hq6
  rw [HJ.out] at c0 c1 c2 c3
  dsimp only at c0 c1 c2 c3
  have H4 := Lib.hid h4; have Q4 := Lib.hid q4; clear h4 q4
  go_upto_region 31 with fail
  have hg : Holds ((((w4.setCell ⟨b4, q * 4, none⟩ (.int .i64 3)).setCell ⟨b4, q * 4 + 1, none⟩ (.int .i64 k0)).setCell ⟨b4, q * 4 + 2, none⟩ (.int .i64 r0)).setCell ⟨b4, q * 4 + 3, none⟩ (.int .i64 0)) _ := Holds.setJob H4.out.two hq6 ⟨3, k0, r0, 0⟩
  have qg := ((((Q4.out.setCell ⟨b4, q * 4, none⟩ (.int .i64 3)).setCell ⟨b4, q * 4 + 1, none⟩ (.int .i64 k0)).setCell ⟨b4, q * 4 + 2, none⟩ (.int .i64 r0)).setCell ⟨b4, q * 4 + 3, none⟩ (.int .i64 0))
  obtain ⟨PT, hPT⟩ : ∃ PT, P.set q ⟨3, k0, r0, 0⟩ = PT := ⟨_, rfl⟩
  obtain ⟨we, hwe⟩ : ∃ we, ((((w4.setCell ⟨b4, q * 4, none⟩ (.int .i64 3)).setCell ⟨b4, q * 4 + 1, none⟩ (.int .i64 k0)).setCell ⟨b4, q * 4 + 2, none⟩ (.int .i64 r0)).setCell ⟨b4, q * 4 + 3, none⟩ (.int .i64 0)) = we := ⟨_, rfl⟩
  rw [hwe, hPT] at hg
  rw [hwe] at qg ⊢
  have HG := Lib.hid hg; have QG := Lib.hid qg; have HPT := Lib.hid hPT
  clear hg qg hPT hwe x1 xj f4 l4 lj HS4 c0 c1 c2 c3
  go_wp2_with (first | (refine wpList_load_whole rfl 96 _ rfl b4 rfl (tcells PT) HG.out.tb Tryz.underlying96 rfl (by kernel_rfl) ?_) | (refine wpList_store_whole rfl 96 _ _ rfl (w.heap.size + 1 + 1) (tcells PT) rfl rfl HG.out.four.bl (by simp [tcells_len]) (by kernel_rfl) (tcells_ones PT) ?_; intro w' h1' h2' h3'; have HE := Lib.hid (HG.out.four.grown h2' h1').four; have QE := Lib.hid (Quiet.grown h2'); have fe := HE.out.bl.frees; have ce := HE.out.bl.cells; have le := HE.out.bl.lt; clear h1' h2' h3'))
  have hf := ((HE.out.setB 0 (.int .i64 0)).setB 1 (.int .i64 0)).setB 2 (.int .i64 0)
  have hl1 := run_load_part (P := Tryz.prog) (off := 0) (ty := 88) (vs := [.int .i64 0, .int .i64 0, .int .i64 0]) hf.bl rfl Tryz.underlying88 rfl (by kernel_rfl)
  have hl2 := run_load_part (P := Tryz.prog) (off := 0) (ty := 96) (vs := tcells PT) hf.two.bl (by simp) Tryz.underlying96 rfl (by kernel_rfl)
  exact bodyPost_ret (results_cell2 rfl rfl rfl hl2 hl1) rfl ⟨by rw [← HPT.out], hf.right.right.right.right.right.right.toBelow' ((((QG.out.trans QE.out).setCell _ _).setCell _ _).setCell _ _)⟩
end Go.Proofs.YtfihmpkkpgmdhaaGreatDoor

/-
  The document's board, walked: Did.
-/
namespace Go.Proofs.YtfihmpkkpgmdhaaGreatDoor
set_option linter.unusedSimpArgs false
set_option linter.unusedVariables false
open Go.RowKit
set_option maxRecDepth 100000 in
set_option maxHeartbeats 4000000 in
theorem bdid_give (t : Tbl) (nw tr wk tm : Int) (q : Nat) (w : World) (hok : t.Ok) (ho : chk ⟨5, nw, (q : Int), tr, wk, tm⟩ = 0) (hq6 : q < 6) (h1 : ((t.pass nw).jobs q).st = 2) (h2 : ((t.pass nw).jobs q).wk = wk) (h3 : ((t.pass nw).jobs q).tr = tr) : Calls Tryz.prog 93 #[.agg (tcells t).toArray, .agg #[.int .i64 5, .int .i64 nw, .int .i64 (q : Int), .int .i64 tr, .int .i64 wk, .int .i64 tm]] w (DidPost w (t.did ⟨5, nw, (q : Int), tr, wk, tm⟩)) := by
  have HO := Lib.hid ho; clear ho
  have hok' := pass_ok hok (chk_more HO.out).1.2
  have HOK := Lib.hid hok'; clear hok hok'
  have htm0 := (chk_zero HO.out).2.2.2.1
  have htm1 := (chk_zero HO.out).2.2.2.2
  dsimp only at htm0 htm1
  obtain ⟨X, hX⟩ : ∃ X, t.did ⟨5, nw, (q : Int), tr, wk, tm⟩ = X := ⟨_, rfl⟩
  rw [hX]
  have HX := Lib.hid hX; clear hX
  have h0 := ((((Holds.old (w := w)).boxB (ty := 96) (cs := tcells t) rfl).boxB (ty := 84) (cs := [.int .i64 5, .int .i64 nw, .int .i64 (q : Int), .int .i64 tr, .int .i64 wk, .int .i64 tm]) (g := w.heap.size + 1) (by simp)).boxB (ty := 96) (cs := tcells Tbl.zero) (g := w.heap.size + 1 + 1) (by simp)).boxB (ty := 88) (cs := [.int .i64 0, .int .i64 0, .int .i64 0]) (g := w.heap.size + 1 + 1 + 1) (by simp)
  have H0 := Lib.hid h0; clear h0
  have q0 := ((((Quiet.refl w).alloc (.cells (tcells t).toArray 96)).alloc (.cells ([.int .i64 5, .int .i64 nw, .int .i64 (q : Int), .int .i64 tr, .int .i64 wk, .int .i64 tm] : List Value).toArray 84)).alloc (.cells (tcells Tbl.zero).toArray 96)).alloc (.cells ([.int .i64 0, .int .i64 0, .int .i64 0] : List Value).toArray 88)
  have Q0 := Lib.hid q0; clear q0
  go_enter Tryz.func93, Tryz.ntmps93
  go_wp2_with fail
  refine (ofault_any 5 nw (q : Int) tr wk tm _).mono ?_
  rw [HO.out]
  rintro e w1 ⟨rfl, hb1⟩
  have H1 := Lib.hid (H0.out.below hb1); have Q1 := Lib.hid (Q0.out.trans (Quiet.below hb1)); clear hb1 H0 Q0
  have x1 := H1.out.right.right.bl.cells
  have HS0 := Lib.hid H1.out.right.right.right.bl
  go_wp2_with (refine wpList_load_whole rfl 96 _ rfl w.heap.size rfl (tcells t) HS0.out Tryz.underlying96 rfl (by kernel_rfl) ?_)
  refine (later_any t nw _).mono ?_
  rintro e w2 ⟨rfl, hb2⟩
  obtain ⟨P, hP⟩ : ∃ P, t.pass nw = P := ⟨_, rfl⟩
  rw [hP]
  have HP := Lib.hid hP; clear hP
  have H2 := Lib.hid (H1.out.below hb2); have Q2 := Lib.hid (Q1.out.trans (Quiet.below hb2)); clear hb2 x1 HS0 H1 Q1
  rw [HP.out] at HOK
  have hn0 := HOK.out.now.1
  have hn1 := HOK.out.now.2
  obtain ⟨⟨s0, k0, r0, u0⟩, hJ⟩ : ∃ J, P.jobs q = J := ⟨_, rfl⟩
  have HJ := Lib.hid hJ
  rw [HP.out, hJ] at h1 h2 h3
  dsimp only at h1 h2 h3
  have hs0 : (s0 == 0) = false := by rw [h1]; rfl
  have hs2 : (s0 != 2) = false := by rw [h1]; rfl
  have hs3 : (k0 != wk) = false := by rw [h2]; simp
  have hs4 : (r0 != tr) = false := by rw [h3]; simp
  have hx : X = ((P.set q { P.jobs q with un := P.now }).pass P.now, ⟨0, 0, 0⟩) := by
    rw [← HX.out]
    refine did_of HO.out ?_ rfl
    dsimp only
    rw [HP.out]
    rw [act_held _ _ _ _ _ _ _ (by simpa [hJ] using h1) (by simpa [hJ] using h2) (by simpa [hJ] using h3) (by simp)]; simp
  subst hx
  have HS1 := Lib.hid h1; have HS2 := Lib.hid h2; have HS3 := Lib.hid h3; clear h1 h2 h3
  clear hJ
  go_upto_region 14 with (refine wpList_store_whole rfl 96 _ _ rfl w2.heap.size (tcells P) rfl rfl (BlockAt.new w2 96 (tcells Tbl.zero)) (by simp [tcells_len]) (by kernel_rfl) (tcells_ones P) ?_; intro w3 h1' h2' h3'; have H3 := Lib.hid ((H2.out.allocB 96 (tcells Tbl.zero)).grown h2' h1'); have Q3 := Lib.hid ((Q2.out.alloc (.cells (tcells Tbl.zero).toArray 96)).trans (Quiet.grown h2')); have x1 := H3.out.right.right.right.bl.cells; have HS4 := Lib.hid H3.out.bl; clear h1' h2' h3')
  obtain ⟨c0, c1, c2, c3⟩ := HS4.out.job hq6
  rw [HJ.out] at c0 c1 c2 c3
  dsimp only at c0 c1 c2 c3
  go_upto_region 15 with fail
  have h4 := (H3.out.boxB (ty := 92) (cs := [.int .i64 s0, .int .i64 k0, .int .i64 r0, .int .i64 u0]) rfl)
  have q4 := (Q3.out.alloc (.cells ([.int .i64 s0, .int .i64 k0, .int .i64 r0, .int .i64 u0] : List Value).toArray 92))
  obtain ⟨w4, hw4⟩ : ∃ w4, w3.alloc (.cells ([.int .i64 s0, .int .i64 k0, .int .i64 r0, .int .i64 u0] : List Value).toArray 92) = w4 := ⟨_, rfl⟩
  obtain ⟨bj, hbj⟩ : ∃ bj, w3.heap.size = bj := ⟨_, rfl⟩
  obtain ⟨b4, hb4⟩ : ∃ b4, w2.heap.size = b4 := ⟨_, rfl⟩
  rw [hw4, hbj] at h4
  rw [hb4] at h4
  rw [hw4] at q4
  have hw4' : w3.alloc (.cells #[.int .i64 s0, .int .i64 k0, .int .i64 r0, .int .i64 u0] 92) = w4 := hw4
  rw [hw4', hbj, hb4]
  clear c0 c1 c2 c3 HS4 x1 hw4 hw4' hbj hb4 H3 Q3 H2 Q2
  have x1 := h4.right.right.right.right.bl.cells
  have xj := h4.bl.cells
  have HS4 := Lib.hid h4.two.bl
  have f4 := HS4.out.frees
  have l4 := HS4.out.lt
  have lj := h4.bl.lt
  obtain ⟨c0, c1, c2, c3⟩ := HS4.out.job hq6
  rw [HJ.out] at c0 c1 c2 c3
  dsimp only at c0 c1 c2 c3
  have H4 := Lib.hid h4; have Q4 := Lib.hid q4; clear h4 q4
  have c24 := HS4.out.cell 24 _ rfl
  go_upto_region 26 with fail
  have hg : Holds (w4.setCell ⟨b4, q * 4 + 3, none⟩ (.int .i64 P.now)) _ := Holds.setUnN H4.out.two hq6 P.now
  have qg := Q4.out.setCell ⟨b4, q * 4 + 3, none⟩ (.int .i64 P.now)
  obtain ⟨PT, hPT⟩ : ∃ PT, P.set q { P.jobs q with un := P.now } = PT := ⟨_, rfl⟩
  obtain ⟨we, hwe⟩ : ∃ we, w4.setCell ⟨b4, q * 4 + 3, none⟩ (.int .i64 P.now) = we := ⟨_, rfl⟩
  rw [hwe, hPT] at hg
  rw [hwe] at qg ⊢
  have hpn : PT.now = P.now := by rw [← hPT]; rfl
  have HG := Lib.hid hg; have QG := Lib.hid qg; have HPT := Lib.hid hPT
  clear hg qg hPT hwe x1 xj f4 l4 lj HS4 c0 c1 c2 c3 c24
  have c24 := HG.out.tb.cell 24 _ rfl
  rw [hpn] at c24
  clear hpn
  go_wp2_with (refine wpList_load_whole rfl 96 _ rfl b4 rfl (tcells PT) HG.out.tb Tryz.underlying96 rfl (by kernel_rfl) ?_)
  refine (later_any PT P.now _).mono ?_
  rintro e w5 ⟨rfl, hb5⟩
  obtain ⟨PU, hPU⟩ : ∃ PU, PT.pass P.now = PU := ⟨_, rfl⟩
  rw [hPU]
  have HPU := Lib.hid hPU
  have H5 := Lib.hid (HG.out.below hb5); have Q5 := Lib.hid (QG.out.trans (Quiet.below hb5)); clear hb5 hPU c24 HG QG
  go_upto_region 31 with (refine wpList_store_whole rfl 96 _ _ rfl b4 (tcells PU) rfl rfl H5.out.bl (by simp [tcells_len]) (by kernel_rfl) (tcells_ones PU) ?_; intro w6 h1' h2' h3'; have H6 := Lib.hid (H5.out.grown h2' h1'); have Q6 := Lib.hid (Q5.out.trans (Quiet.grown h2')); clear h1' h2' h3')
  go_wp2_with (first | (refine wpList_load_whole rfl 96 _ rfl b4 rfl (tcells PU) H6.out.bl Tryz.underlying96 rfl (by kernel_rfl) ?_) | (refine wpList_store_whole rfl 96 _ _ rfl (w.heap.size + 1 + 1) (tcells PU) rfl rfl H6.out.four.bl (by simp [tcells_len]) (by kernel_rfl) (tcells_ones PU) ?_; intro w' h1' h2' h3'; have HE := Lib.hid (H6.out.four.grown h2' h1').four; have QE := Lib.hid (Quiet.grown h2'); have fe := HE.out.bl.frees; have ce := HE.out.bl.cells; have le := HE.out.bl.lt; clear h1' h2' h3'))
  have hf := ((HE.out.setB 0 (.int .i64 0)).setB 1 (.int .i64 0)).setB 2 (.int .i64 0)
  have hl1 := run_load_part (P := Tryz.prog) (off := 0) (ty := 88) (vs := [.int .i64 0, .int .i64 0, .int .i64 0]) hf.bl rfl Tryz.underlying88 rfl (by kernel_rfl)
  have hl2 := run_load_part (P := Tryz.prog) (off := 0) (ty := 96) (vs := tcells PU) hf.two.bl (by simp) Tryz.underlying96 rfl (by kernel_rfl)
  exact bodyPost_ret (results_cell2 rfl rfl rfl hl2 hl1) rfl ⟨by rw [← HPU.out, ← HPT.out], hf.right.right.right.right.right.right.toBelow' ((((Q6.out.trans QE.out).setCell _ _).setCell _ _).setCell _ _)⟩
end Go.Proofs.YtfihmpkkpgmdhaaGreatDoor

/-
  The document's board, walked: Did, whatever is ordered; Do.
-/
namespace Go.Proofs.YtfihmpkkpgmdhaaGreatDoor
set_option linter.unusedSimpArgs false
set_option linter.unusedVariables false
open Go.RowKit
theorem bdid_any (t : Tbl) (kd nw jb tr wk tm : Int) (w : World) (hok : t.Ok) : Calls Tryz.prog 93 #[.agg (tcells t).toArray, .agg #[.int .i64 kd, .int .i64 nw, .int .i64 jb, .int .i64 tr, .int .i64 wk, .int .i64 tm]] w (DidPost w (t.did ⟨kd, nw, jb, tr, wk, tm⟩)) := by
  by_cases ho : chk ⟨kd, nw, jb, tr, wk, tm⟩ = 0
  · obtain ⟨hj, hk, _⟩ := chk_zero ho
    dsimp only at hj hk
    obtain ⟨q, rfl⟩ := Int.eq_ofNat_of_zero_le hj.1
    have hq : q < 6 := by omega
    by_cases h2 : kd = 2
    · subst h2; exact bdid_take t nw q tr wk tm w hok ho
    · by_cases hs : ((t.pass nw).jobs q).st = 0
      · by_cases h1 : kd = 1
        · subst h1; exact bdid_add0 t nw tr wk tm q w hok ho hq hs
        · exact bdid_abs t kd nw tr wk tm q w hok ho hq (by omega) hs
      · by_cases h1 : kd = 1
        · subst h1; exact bdid_add1 t nw tr wk tm q w hok ho hq hs
        · have hk' : kd = 3 ∨ kd = 4 ∨ kd = 5 := by omega
          by_cases hh : ((t.pass nw).jobs q).st = 2 ∧ ((t.pass nw).jobs q).wk = wk ∧ ((t.pass nw).jobs q).tr = tr
          · obtain ⟨a, b, c⟩ := hh
            rcases hk' with rfl | rfl | rfl
            · exact bdid_renew t nw tr wk tm q w hok ho hq a b c
            · exact bdid_done t nw tr wk tm q w hok ho hq a b c
            · exact bdid_give t nw tr wk tm q w hok ho hq a b c
          · refine bdid_else t kd nw tr wk tm q w hok ho hq hk' hs ?_
            by_cases a : ((t.pass nw).jobs q).st = 2
            · by_cases b : ((t.pass nw).jobs q).wk = wk
              · exact .inr (.inr fun c => hh ⟨a, b, c⟩)
              · exact .inr (.inl b)
            · exact .inl a
  · exact bdid_no t kd nw jb tr wk tm w ho
end Go.Proofs.YtfihmpkkpgmdhaaGreatDoor

/-
  The document's board, walked: Job.
-/
namespace Go.Proofs.YtfihmpkkpgmdhaaGreatDoor
set_option linter.unusedSimpArgs false
set_option linter.unusedVariables false
open Go.RowKit
set_option maxRecDepth 100000 in
set_option maxHeartbeats 1000000 in
theorem bjob_any (b : Nat) (ty : TypeId) (cs : List Value) (t : Tbl) (n : Int) (w : World) (h : BlockAt w b ty (tcells t ++ cs)) :
    Calls Tryz.prog 36 #[.pointer (some ⟨b, 0, none⟩), .int .i64 n] w fun e w' => e = .returned (t.job n).val ∧ Below w.heap.size w w' := by
  have hlt := h.lt
  by_cases h0 : n < 0
  · have HJ : Hid (t.job n = Job.zero) := by simp only [Hid, Tbl.job, if_neg (show ¬ (0 ≤ n ∧ n ≤ 5) by omega)]
    clear h
    go_enter Tryz.func36, Tryz.ntmps36
    go_wp2
    rw [HJ.out]
    refine bodyPost_ret (v := Job.zero.val) (by simp [results, Tryz.results36, go_sem, Job.val, jcells, Job.zero]) rfl ⟨rfl, ?_⟩
    repeat refine Below.setCell ?_ (Nat.le_refl _) _
    exact (Below.refl _ _).alloc (Nat.le_refl _) _
  · by_cases h5 : 6 ≤ n
    · have HJ : Hid (t.job n = Job.zero) := by simp only [Hid, Tbl.job, if_neg (show ¬ (0 ≤ n ∧ n ≤ 5) by omega)]
      clear h
      go_enter Tryz.func36, Tryz.ntmps36
      go_wp2
      rw [HJ.out]
      refine bodyPost_ret (v := Job.zero.val) (by simp [results, Tryz.results36, go_sem, Job.val, jcells, Job.zero]) rfl ⟨rfl, ?_⟩
      repeat refine Below.setCell ?_ (Nat.le_refl _) _
      exact (Below.refl _ _).alloc (Nat.le_refl _) _
    · obtain ⟨k, rfl⟩ := Int.eq_ofNat_of_zero_le (show 0 ≤ n by omega)
      have hk6 : k < 6 := by omega
      have HJ : Hid (t.job k = t.jobs k) := by simp only [Hid, Tbl.job, if_pos (show 0 ≤ (k : Int) ∧ (k : Int) ≤ 5 by omega)]; rfl
      have hcell : ∀ j v, j < 25 → (tcells t)[j]? = some v → w.cell? ⟨b, j, none⟩ = some v := fun j v hj hv => h.cell j v (by rw [List.getElem?_append_left (by rw [tcells_len]; exact hj)]; exact hv)
      obtain ⟨e0, e1, e2, e3⟩ := tcells_job t k hk6
      rw [Nat.mul_comm] at e0 e1 e2 e3
      have c0 := hcell _ _ (by omega) e0
      have c1 := hcell _ _ (by omega) e1
      have c2 := hcell _ _ (by omega) e2
      have c3 := hcell _ _ (by omega) e3
      clear e0 e1 e2 e3 hcell h h0 h5
      go_enter Tryz.func36, Tryz.ntmps36
      go_wp2
      rw [HJ.out]
      refine bodyPost_ret (v := (t.jobs k).val) (by simp [results, Tryz.results36, go_sem, Job.val, jcells]) rfl ⟨rfl, ?_⟩
      repeat refine Below.setCell ?_ (Nat.le_refl _) _
      exact (Below.refl _ _).alloc (Nat.le_refl _) _
end Go.Proofs.YtfihmpkkpgmdhaaGreatDoor

/-
  The document's board, walked: Do.
-/
namespace Go.Proofs.YtfihmpkkpgmdhaaGreatDoor
set_option linter.unusedSimpArgs false
set_option linter.unusedVariables false
open Go.RowKit
set_option maxRecDepth 100000 in
set_option maxHeartbeats 4000000 in
theorem bdo_sl (b : Nat) (t : Tbl) (c n j r k m : Int) (w : World) {R : HP} (h : Holds w (tb b 96 t * R)) (hok : t.Ok) :
    Calls Tryz.prog 65 #[.pointer (some ⟨b, 0, none⟩), .agg #[.int .i64 c, .int .i64 n, .int .i64 j, .int .i64 r, .int .i64 k, .int .i64 m]] w
      (Post w R (.agg #[.int .i64 (t.did ⟨c, n, j, r, k, m⟩).2.code, .int .i64 (t.did ⟨c, n, j, r, k, m⟩).2.job, .int .i64 (t.did ⟨c, n, j, r, k, m⟩).2.tr]) (tb b 96 (t.did ⟨c, n, j, r, k, m⟩).1)) := by
  obtain ⟨⟨T', ⟨a1, a2, a3⟩⟩, hX⟩ : ∃ X, t.did ⟨c, n, j, r, k, m⟩ = X := ⟨_, rfl⟩
  rw [hX]
  have HX := Lib.hid hX; clear hX
  have hdid := fun W => bdid_any t c n j r k m W hok
  rw [HX.out] at hdid
  have HD := Lib.hid hdid; clear hdid hok
  obtain ⟨w1, hw1, H1, Q1⟩ : ∃ w1, (w.alloc (.cells #[.int .i64 c, .int .i64 n, .int .i64 j, .int .i64 r, .int .i64 k, .int .i64 m] 84)).alloc (.cells #[.int .i64 0, .int .i64 0, .int .i64 0] 88) = w1 ∧ Hid (Holds w1 (bl (w.heap.size + 1) 88 [.int .i64 0, .int .i64 0, .int .i64 0] * (bl w.heap.size 84 [.int .i64 c, .int .i64 n, .int .i64 j, .int .i64 r, .int .i64 k, .int .i64 m] * (tb b 96 t * R)))) ∧ Hid (Quiet w w1) :=
    ⟨_, rfl, Lib.hid ((h.boxB (ty := 84) (cs := [.int .i64 c, .int .i64 n, .int .i64 j, .int .i64 r, .int .i64 k, .int .i64 m]) rfl).boxB (ty := 88) (cs := [.int .i64 0, .int .i64 0, .int .i64 0]) (g := w.heap.size + 1) (by simp)), Lib.hid (((Quiet.refl w).alloc _).alloc _)⟩
  clear h
  obtain ⟨g0, hg0⟩ : ∃ g0, w.heap.size = g0 := ⟨_, rfl⟩
  rw [hg0] at H1
  go_enter Tryz.func65, Tryz.ntmps65
  go_wp2_with fail
  clear hw1 hg0
  refine wp_region_lexH (fun W => BlockAt W b 96 (tcells t) ∧ BlockAt W g0 84 [.int .i64 c, .int .i64 n, .int .i64 j, .int .i64 r, .int .i64 k, .int .i64 m]) [4, 10, 11] [8, 9] (fz2 8 96 (tcells Tbl.zero) 9 88 [.int .i64 0, .int .i64 0, .int .i64 0]) _ (by kernel_rfl) (by kernel_rfl) (by kernel_rfl) fz2_fl fz2_no (fz2_ok rfl ⟨rfl, fun a w => by kernel_rfl⟩ rfl ⟨rfl, fun a w => by kernel_rfl⟩) (fun W o h => ⟨h.1.alloc o, h.2.alloc o⟩) ⟨H1.out.drew.three.bl, H1.out.drew.two.bl⟩ H1.out.drew ?_
  repeat (first | (refine LexHL.still (v := ?_) (by rfl) (by rfl) ?_ ?_; rotate_left; (focus (intro W hW; (try dsimp only at hW); go_simp; (try (with_reducible rfl)); done)); (try simp only [Act.put, List.setIfInBounds_toArray, List.set_cons_zero, List.set_cons_succ])))
  refine LexHL.load 96 (.tmp 9) rfl b 0 rfl (tcells t) (fun W h => h.1) (by simp) Tryz.underlying96 rfl (by kernel_rfl) rfl rfl ?_
  try simp only [Act.put, List.setIfInBounds_toArray, List.set_cons_zero, List.set_cons_succ]
  refine LexHL.load 84 (.tmp 3) rfl g0 0 rfl [.int .i64 c, .int .i64 n, .int .i64 j, .int .i64 r, .int .i64 k, .int .i64 m] (fun W h => h.2) (by simp) Tryz.underlying84 rfl (by kernel_rfl) rfl rfl ?_
  try simp only [Act.put, List.setIfInBounds_toArray, List.set_cons_zero, List.set_cons_succ]
  refine LexHL.call (f := 93) (args := #[.agg (tcells t).toArray, .agg #[.int .i64 c, .int .i64 n, .int .i64 j, .int .i64 r, .int .i64 k, .int .i64 m]]) rfl rfl (by decide) (fun W _ => by go_simp) ?_
  intro W R1 hS hq hA
  refine (HD.out W).mono ?_
  rintro e w2 ⟨rfl, hb2⟩
  have hA2 := hA.below hb2
  refine ⟨_, rfl, ⟨hS.1.below hb2 hS.1.lt, hS.2.below hb2 hS.2.lt⟩, hq.trans (Quiet.below hb2), _, hA2, ?_⟩
  clear hS hq hA hb2 hA2
  dsimp only
  repeat (first | (refine LexHL.still (v := ?_) (by rfl) (by rfl) ?_ ?_; rotate_left; (focus (intro W hW; (try dsimp only at hW); go_simp; (try (with_reducible rfl)); done)); (try simp only [Act.put, List.setIfInBounds_toArray, List.set_cons_zero, List.set_cons_succ])))
  refine LexHL.made rfl ?_
  intro q1 hlv
  clear hlv
  try simp only [Act.put, List.setIfInBounds_toArray, List.set_cons_zero, List.set_cons_succ]
  refine LexHL.made rfl ?_
  intro q2 hlv
  clear hlv
  try simp only [Act.put, List.setIfInBounds_toArray, List.set_cons_zero, List.set_cons_succ]
  refine LexHL.storeB (q := q1) (t := 96) (cs := tcells Tbl.zero) (B := bl q2 88 [.int .i64 0, .int .i64 0, .int .i64 0] * (bl (g0 + 1) 88 [.int .i64 0, .int .i64 0, .int .i64 0] * (bl g0 84 [.int .i64 c, .int .i64 n, .int .i64 j, .int .i64 r, .int .i64 k, .int .i64 m] * (tb b 96 t * R)))) 96 _ _ rfl (tcells T') rfl rfl (by simp [tcells_len]) (by kernel_rfl) (tcells_ones T') rfl rfl (by decide) (by ac_rfl) (fun W R2 h => ⟨h.left.right.right.right.right.bl, h.left.right.right.right.bl⟩) ?_
  try simp only [Act.put, List.setIfInBounds_toArray, List.set_cons_zero, List.set_cons_succ]
  refine LexHL.storeB (q := q2) (t := 88) (cs := [.int .i64 0, .int .i64 0, .int .i64 0]) (B := bl q1 96 (tcells T') * (bl (g0 + 1) 88 [.int .i64 0, .int .i64 0, .int .i64 0] * (bl g0 84 [.int .i64 c, .int .i64 n, .int .i64 j, .int .i64 r, .int .i64 k, .int .i64 m] * (tb b 96 t * R)))) 88 _ _ rfl [.int .i64 a1, .int .i64 a2, .int .i64 a3] rfl rfl rfl (by kernel_rfl) (by simp [Ones, Value.oneCell']) rfl rfl (by decide) (by ac_rfl) (fun W R2 h => ⟨h.left.right.right.right.right.bl, h.left.right.right.right.bl⟩) ?_
  try simp only [Act.put, List.setIfInBounds_toArray, List.set_cons_zero, List.set_cons_succ]
  refine LexHL.done ?_
  intro W hS hA hq
  have HA := Lib.hid hA; have HQ := Lib.hid (Q1.out.drew.trans hq)
  clear hS hA hq
  have HB := Lib.hid ((HA.out.eq (by ac_rfl : _ = (bl q1 96 (tcells T') * bl g0 84 [.int .i64 c, .int .i64 n, .int .i64 j, .int .i64 r, .int .i64 k, .int .i64 m]) * (tb b 96 t * (bl q2 88 [.int .i64 a1, .int .i64 a2, .int .i64 a3] * (bl (g0 + 1) 88 [.int .i64 0, .int .i64 0, .int .i64 0] * R))))).right)
  go_wp2_with (first | (refine wpList_load_whole rfl 96 _ rfl q1 rfl (tcells T') HA.out.two.bl Tryz.underlying96 rfl (by kernel_rfl) ?_) | (refine wpList_store_whole rfl 96 _ _ rfl b (tcells T') rfl rfl HB.out.tb (by simp [tcells_len]) (by kernel_rfl) (tcells_ones T') ?_; intro w' h1' h2' h3'; have HE := Lib.hid (HB.out.grown h2' h1'); have QE := Lib.hid (HQ.out.trans (Quiet.grown h2')); have ca := HE.out.two.bl.cells; have fe := HE.out.three.bl.frees; have ce := HE.out.three.bl.cells; have le := HE.out.three.bl.lt; clear h1' h2' h3'))
  have hf := (((HE.out.three.setB 0 (.int .i64 a1)).setB 1 (.int .i64 a2)).setB 2 (.int .i64 a3))
  have hl := run_load_part (P := Tryz.prog) (off := 0) (ty := 88) (vs := [.int .i64 a1, .int .i64 a2, .int .i64 a3]) hf.bl rfl Tryz.underlying88 rfl (by kernel_rfl)
  exact bodyPost_ret (results_cell1 rfl rfl hl) rfl ⟨rfl, ((QE.out.setCell _ _).setCell _ _).setCell _ _, (hf.right.eq (by ac_rfl : _ = bl q2 88 [.int .i64 a1, .int .i64 a2, .int .i64 a3] * (bl b 96 (tcells T') * R))).right⟩
theorem bjob_sl (b : Nat) (t : Tbl) (n : Int) (w : World) {R : HP} (h : Holds w (tb b 96 t * R)) : Calls Tryz.prog 36 #[.pointer (some ⟨b, 0, none⟩), .int .i64 n] w fun e w' => e = .returned (t.job n).val ∧ Below w.heap.size w w' :=
  bjob_any b 96 [] t n w (by simpa using h.tb)
end Go.Proofs.YtfihmpkkpgmdhaaGreatDoor
