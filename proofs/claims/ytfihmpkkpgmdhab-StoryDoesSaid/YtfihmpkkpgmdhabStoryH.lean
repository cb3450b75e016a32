/-
  The law's own events, walked: what the story told, as the document has it.
-/
import Derived.Test.YtfihmpkkpgmdhabStoryG
import Derived.Test.YtfihmpkkpgmdhabBuilt
namespace Go.Proofs.Ytfihmpkkpgmdhab
set_option linter.unusedSimpArgs false
set_option linter.unusedVariables false
open Go.RowKit
section
variable {P : Program}
theorem exec_built {o : Oper} {a : Act} {w : World} (t : TypeId) (parts : Array (Nat × Operand)) (ho : o.op = .build t parts) (vs : List Value)
    (hb : P.built t (parts.map fun (i, x) => (i, a.eval x)).toList = some vs.toArray) : (execOp a.eval o).run P w = .ok (.value (.agg vs.toArray)) w := by
  unfold execOp
  simp only [ho, Sem.run_bind, run_build w t _ _ hb, Result.andThen_ok]
  rfl
end
theorem Try.infoREv : (Try.prog.info? 55).map (fun i => (i.zero, i.size, i.bytes)) = some (some (.agg #[.int .i64 0, .int .i64 0, .int .i64 0, .int .i64 0, .int .i64 0, .int .i64 0, .int .i64 0, .int .i64 0, .int .i64 0, .int .i64 0, .int .i64 0, .int .i64 0, .int .i64 0, .int .i64 0]), 14, 112) := by kernel_rfl
def revs (v : Value) (l : List Ev) : HP := rw_ 55 14 v l.length (evvs l)
theorem Holds.nilRE {w : World} {A : HP} (h : Holds w A) : Holds w (revs (.slice none 0 0) [] * A) := h.nilRow _ _
theorem rev_fit {w : World} {v : Value} {R : HP} (acc : List Ev) (e : Ev) (h : Holds w (rw_ 55 14 v (acc.length + 1) (evvs acc ++ evcells e) * R)) : Holds w (revs v (acc ++ [e]) * R) :=
  h.eq (by unfold revs; rw [evvs_append, List.length_append]; simp [evvs])
theorem ev_cells14 {w : World} {g off n c : Nat} {E : List Ev} (h : RowAt w (.slice (some ⟨g, off, none⟩) n c) E.length (evvs E)) {i : Nat} (ep2 kd nw jb tr wk tm a0 a1 a2 s1 s2 s3 s4 : Int) (hi : E[i]? = some ⟨⟨ep2, ⟨kd, nw, jb, tr, wk, tm⟩⟩, ⟨a0, a1, a2⟩, ⟨s1, s2, s3, s4⟩⟩) {W : World} {A : HP} (hW : Holds W (A * old w)) :
    W.cell? ⟨g, off + i * 14, none⟩ = some (.int .i64 ep2) ∧ W.cell? ⟨g, off + i * 14 + 1, none⟩ = some (.int .i64 kd) ∧ W.cell? ⟨g, off + i * 14 + 2, none⟩ = some (.int .i64 nw) ∧ W.cell? ⟨g, off + i * 14 + 3, none⟩ = some (.int .i64 jb) ∧ W.cell? ⟨g, off + i * 14 + 4, none⟩ = some (.int .i64 tr) ∧ W.cell? ⟨g, off + i * 14 + 5, none⟩ = some (.int .i64 wk) ∧ W.cell? ⟨g, off + i * 14 + 6, none⟩ = some (.int .i64 tm) ∧ W.cell? ⟨g, off + i * 14 + 7, none⟩ = some (.int .i64 a0) ∧ W.cell? ⟨g, off + i * 14 + 8, none⟩ = some (.int .i64 a1) ∧ W.cell? ⟨g, off + i * 14 + 9, none⟩ = some (.int .i64 a2) ∧ W.cell? ⟨g, off + i * 14 + 10, none⟩ = some (.int .i64 s1) ∧ W.cell? ⟨g, off + i * 14 + 11, none⟩ = some (.int .i64 s2) ∧ W.cell? ⟨g, off + i * 14 + 12, none⟩ = some (.int .i64 s3) ∧ W.cell? ⟨g, off + i * 14 + 13, none⟩ = some (.int .i64 s4) :=
  ⟨ev_old_cell h hi hW 0 _ (by omega) rfl, ev_old_cell h hi hW 1 _ (by omega) rfl, ev_old_cell h hi hW 2 _ (by omega) rfl, ev_old_cell h hi hW 3 _ (by omega) rfl, ev_old_cell h hi hW 4 _ (by omega) rfl, ev_old_cell h hi hW 5 _ (by omega) rfl, ev_old_cell h hi hW 6 _ (by omega) rfl, ev_old_cell h hi hW 7 _ (by omega) rfl, ev_old_cell h hi hW 8 _ (by omega) rfl, ev_old_cell h hi hW 9 _ (by omega) rfl, ev_old_cell h hi hW 10 _ (by omega) rfl, ev_old_cell h hi hW 11 _ (by omega) rfl, ev_old_cell h hi hW 12 _ (by omega) rfl, ev_old_cell h hi hW 13 _ (by omega) rfl⟩
set_option maxRecDepth 100000 in
set_option maxHeartbeats 8000000 in
theorem events_any (v : Value) (E : List Ev) (w : World) (h : RowAt w v E.length (evvs E)) (hl : E.length ≤ 20000) : Calls Try.prog 31 #[v] w (PostX w (old w) (fun v => v) fun v => revs v E) := by
  obtain ⟨a, cc, rfl, -, -⟩ := h.shape
  have HV := Lib.hid h; clear h
  obtain ⟨i0, hi, hz0, hz1, hz2⟩ := info_parts Try.infoREv
  have HI := Lib.hid hi; have HZ0 := Lib.hid hz0; have HZ1 := Lib.hid hz1; have HZ2 := Lib.hid hz2
  clear hi hz0 hz1 hz2
  go_enter Try.func31, Try.ntmps31
  go_wp2_with fail
  go_loopw [3, 4] (fun s i wr => ∃ k : Nat, k ≤ E.length ∧ i = .int .i64 k ∧ Holds wr (revs s (E.take k) * old w) ∧ Quiet w wr) (fun _ i _ => E.length - (intOf i).toNat)
  case atStart => exact ⟨0, by omega, rfl, Holds.old.nilRE, Quiet.refl _⟩
  case round =>
    obtain ⟨k, hk, rfl, hh, hq⟩ := hrel
    have HK := Lib.hid hk
    by_cases hlt : k < E.length
    · obtain ⟨r, hr⟩ : ∃ r, E[k]? = some r := ⟨_, List.getElem?_eq_getElem hlt⟩
      obtain ⟨g, off, cx, e, _, _, hc0⟩ := (HV.out.old hh).get (by omega)
      simp only [Value.slice.injEq] at e
      obtain ⟨rfl, _, rfl⟩ := e
      have hst : E.take (k + 1) = E.take k ++ [r] := by rw [List.take_succ_eq_append_getElem hlt, (List.getElem?_eq_some_iff.1 hr).2]
      obtain ⟨acc, hacc⟩ : ∃ acc, E.take k = acc := ⟨_, rfl⟩
      have hal : acc.length ≤ 20000 := by rw [← hacc, List.length_take]; omega
      rw [hacc] at hh hst
      obtain ⟨⟨ep2, ⟨kd, nw, jb, tr, wk, tm⟩⟩, ⟨a0, a1, a2⟩, ⟨s1, s2, s3, s4⟩⟩ := r
      have mkS : ∀ (W : World) (A : HP), Holds W (A * old w) → W.cell? ⟨g, off + k * 14, none⟩ = some (.int .i64 ep2) ∧ W.cell? ⟨g, off + k * 14 + 1, none⟩ = some (.int .i64 kd) ∧ W.cell? ⟨g, off + k * 14 + 2, none⟩ = some (.int .i64 nw) ∧ W.cell? ⟨g, off + k * 14 + 3, none⟩ = some (.int .i64 jb) ∧ W.cell? ⟨g, off + k * 14 + 4, none⟩ = some (.int .i64 tr) ∧ W.cell? ⟨g, off + k * 14 + 5, none⟩ = some (.int .i64 wk) ∧ W.cell? ⟨g, off + k * 14 + 6, none⟩ = some (.int .i64 tm) ∧ W.cell? ⟨g, off + k * 14 + 7, none⟩ = some (.int .i64 a0) ∧ W.cell? ⟨g, off + k * 14 + 8, none⟩ = some (.int .i64 a1) ∧ W.cell? ⟨g, off + k * 14 + 9, none⟩ = some (.int .i64 a2) ∧ W.cell? ⟨g, off + k * 14 + 10, none⟩ = some (.int .i64 s1) ∧ W.cell? ⟨g, off + k * 14 + 11, none⟩ = some (.int .i64 s2) ∧ W.cell? ⟨g, off + k * 14 + 12, none⟩ = some (.int .i64 s3) ∧ W.cell? ⟨g, off + k * 14 + 13, none⟩ = some (.int .i64 s4) := fun W A hW =>
        ev_cells14 HV.out ep2 kd nw jb tr wk tm a0 a1 a2 s1 s2 s3 s4 hr hW
      have MKS := Lib.hid mkS
      obtain ⟨wo, rfl⟩ : ∃ wo : World, wo = wr := ⟨_, rfl⟩
      have HH := Lib.hid hh; have HQ := Lib.hid hq; have HST := Lib.hid hst
      clear hh hq hr hc0 hacc hst mkS
      have hlt' : (k : Int) < (E.length : Int) := by omega
      go_wp2_with fail
      refine wp_region_lex (fun W => W.cell? ⟨g, off + k * 14, none⟩ = some (.int .i64 ep2) ∧ W.cell? ⟨g, off + k * 14 + 1, none⟩ = some (.int .i64 kd) ∧ W.cell? ⟨g, off + k * 14 + 2, none⟩ = some (.int .i64 nw) ∧ W.cell? ⟨g, off + k * 14 + 3, none⟩ = some (.int .i64 jb) ∧ W.cell? ⟨g, off + k * 14 + 4, none⟩ = some (.int .i64 tr) ∧ W.cell? ⟨g, off + k * 14 + 5, none⟩ = some (.int .i64 wk) ∧ W.cell? ⟨g, off + k * 14 + 6, none⟩ = some (.int .i64 tm) ∧ W.cell? ⟨g, off + k * 14 + 7, none⟩ = some (.int .i64 a0) ∧ W.cell? ⟨g, off + k * 14 + 8, none⟩ = some (.int .i64 a1) ∧ W.cell? ⟨g, off + k * 14 + 9, none⟩ = some (.int .i64 a2) ∧ W.cell? ⟨g, off + k * 14 + 10, none⟩ = some (.int .i64 s1) ∧ W.cell? ⟨g, off + k * 14 + 11, none⟩ = some (.int .i64 s2) ∧ W.cell? ⟨g, off + k * 14 + 12, none⟩ = some (.int .i64 s3) ∧ W.cell? ⟨g, off + k * 14 + 13, none⟩ = some (.int .i64 s4)) [17, 18] (by kernel_rfl) (by kernel_rfl) (MKS.out _ _ HH.out.drew) ?_
      iterate 16 ((first | (refine LexL.none (by rfl) ?_; (try simp only [Act.put, List.setIfInBounds_toArray, List.set_cons_zero, List.set_cons_succ])) | (refine LexL.still (v := ?_) (by rfl) ?_ ?_; rotate_left; (focus (intro W hW; (try dsimp only at hW); go_simp; (try (with_reducible rfl)); done)); (try simp only [Act.put, List.setIfInBounds_toArray, List.set_cons_zero, List.set_cons_succ]))))
      refine LexL.still (v := .agg #[.int .i64 ep2, .int .i64 kd, .int .i64 nw, .int .i64 jb, .int .i64 tr, .int .i64 wk, .int .i64 tm, .int .i64 a0, .int .i64 a1, .int .i64 a2, .int .i64 s1, .int .i64 s2, .int .i64 s3, .int .i64 s4]) (by rfl) (fun W hW => exec_built 55 _ rfl [.int .i64 ep2, .int .i64 kd, .int .i64 nw, .int .i64 jb, .int .i64 tr, .int .i64 wk, .int .i64 tm, .int .i64 a0, .int .i64 a1, .int .i64 a2, .int .i64 s1, .int .i64 s2, .int .i64 s3, .int .i64 s4] (by kernel_rfl)) ?_
      try simp only [Act.put, List.setIfInBounds_toArray, List.set_cons_zero, List.set_cons_succ]
      have hb := HH.out.drew.boxRow (e := 55) 14 (n := 1) (cs := [.int .i64 ep2, .int .i64 kd, .int .i64 nw, .int .i64 jb, .int .i64 tr, .int .i64 wk, .int .i64 tm, .int .i64 a0, .int .i64 a1, .int .i64 a2, .int .i64 s1, .int .i64 s2, .int .i64 s3, .int .i64 s4]) rfl (ivs_ones [ep2, kd, nw, jb, tr, wk, tm, a0, a1, a2, s1, s2, s3, s4]) (by omega) rfl
      have HBX := Lib.hid hb; clear hb
      refine LexL.value (w1 := wo.drew.alloc (.cells #[.int .i64 ep2, .int .i64 kd, .int .i64 nw, .int .i64 jb, .int .i64 tr, .int .i64 wk, .int .i64 tm, .int .i64 a0, .int .i64 a1, .int .i64 a2, .int .i64 s1, .int .i64 s2, .int .i64 s3, .int .i64 s4] 55)) (v := .slice (some ⟨wo.drew.heap.size, 0, none⟩) 1 1) (by rfl) (by decide) (by go_simp) (MKS.out _ _ (HBX.out.eq (HP.assoc _ _ _).symm)) ?_
      try simp only [Act.put, List.setIfInBounds_toArray, List.set_cons_zero, List.set_cons_succ]
      refine LexL.append _ _ 53 rfl 55 i0 _ 14 112 Try.underlying53 HI.out HZ0.out HZ1.out HZ2.out rfl (by decide) rfl rfl (by rfl) (by decide) (HBX.out.two) HBX.out.row rfl (ivs_ones [ep2, kd, nw, jb, tr, wk, tm, a0, a1, a2, s1, s2, s3, s4]) (by omega) (by omega) ?_
      intro v' w' hv' hq'
      have HV' := Lib.hid hv'; have HQ' := Lib.hid hq'; clear hv' hq'
      refine ⟨MKS.out _ _ (HV'.out.eq (HP.assoc _ _ _).symm), ?_⟩
      try simp only [Act.put, List.setIfInBounds_toArray, List.set_cons_zero, List.set_cons_succ]
      repeat (first | (refine LexL.none (by rfl) ?_; (try simp only [Act.put, List.setIfInBounds_toArray, List.set_cons_zero, List.set_cons_succ])) | (refine LexL.still (v := ?_) (by rfl) ?_ ?_; rotate_left; (focus (intro W hW; (try dsimp only at hW); go_simp; (try (with_reducible rfl)); done)); (try simp only [Act.put, List.setIfInBounds_toArray, List.set_cons_zero, List.set_cons_succ])))
      refine LexL.done ?_
      go_wp2_with fail
      go_roundw
      case rel => exact ⟨k + 1, by omega, by go_num, by rw [HST.out]; exact (rev_fit acc ⟨⟨ep2, ⟨kd, nw, jb, tr, wk, tm⟩⟩, ⟨a0, a1, a2⟩, ⟨s1, s2, s3, s4⟩⟩ HV'.out).two.right, ((HQ.out.drew.alloc _).trans HQ'.out)⟩
      case measure => simp [intOf]; omega
    · obtain rfl : k = E.length := by omega
      go_wp2
      go_ret
      exact ⟨_, rfl, hq, by rw [List.take_length] at hh; exact hh⟩
theorem events_sl (v : Value) (E : List Ev) (w : World) (h : RowAt w v E.length (evvs E)) (hl : E.length ≤ 20000) {R : HP} (hr : Holds w R) : Calls Try.prog 31 #[v] w (PostX w R (fun v => v) fun v => revs v E) :=
  (events_any v E w h hl).mono fun e w' ⟨x, he, hq, hh⟩ => ⟨x, he, hq, hh.frame hr⟩
end Go.Proofs.Ytfihmpkkpgmdhab
