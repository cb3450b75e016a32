/-
  The document's holders, walked; numbers, one behind the other.
-/
import Derived.Test.YtfihmpkkpgmdhabStoryD
import Derived.Test.YtfihmpkkpgmdhabLexA
namespace Go.Proofs.Ytfihmpkkpgmdhab
set_option linter.unusedSimpArgs false
set_option linter.unusedVariables false
open Go.RowKit
theorem Try.infoI64 : (Try.prog.info? 3).map (fun i => (i.zero, i.size, i.bytes)) = some (some (.int .i64 0), 1, 8) := by kernel_rfl
/-- A cell of an event that came in, in any world where all that there was stands. -/
theorem ev_old_cell {w : World} {g off n c : Nat} {E : List Ev} (h : RowAt w (.slice (some ⟨g, off, none⟩) n c) E.length (evvs E)) {i : Nat} {r : Ev} (hi : E[i]? = some r) {W : World} {A : HP} (hW : Holds W (A * old w)) (j : Nat) (u : Value) (hj : j < 14) (hu : (evcells r)[j]? = some u) : W.cell? ⟨g, off + i * 14 + j, none⟩ = some u := by
  have hl : E.length ≠ 0 := by
    intro e
    have := (List.getElem?_eq_some_iff.1 hi).1
    omega
  obtain ⟨g', off', c', e, _, _, hc⟩ := (h.old hW).get hl
  simp only [Value.slice.injEq, Option.some.injEq, Addr.mk.injEq, and_true] at e
  obtain ⟨⟨rfl, rfl⟩, _, rfl⟩ := e
  exact evvs_cell hc hi j u hj hu
theorem hvs_length (l : List (Int × Int)) : (hvs l).length = 2 * l.length := by
  induction l with
  | nil => rfl
  | cons p l ih => simp only [hvs, List.flatMap_cons, List.length_append, List.length_cons, List.length_nil] at *; omega
def hint (v : Value) (l : List (Int × Int)) : HP := rw_ 3 1 v (2 * l.length) (hvs l)
theorem Holds.nilI {w : World} {A : HP} (h : Holds w A) : Holds w (hint (.slice none 0 0) [] * A) := h.nilRow _ _
theorem hint_fit {w : World} {v : Value} {R : HP} (acc : List (Int × Int)) (a b : Int) (h : Holds w (rw_ 3 1 v (2 * acc.length + 2) (hvs acc ++ [.int .i64 a, .int .i64 b]) * R)) : Holds w (hint v (acc ++ [(a, b)]) * R) := by
  unfold hint
  rw [hvs_append, List.length_append]
  exact h
set_option maxRecDepth 100000 in
set_option maxHeartbeats 8000000 in
theorem holdersOf_any (v : Value) (E : List Ev) (j : Int) (w : World) (h : RowAt w v E.length (evvs E)) (hl : E.length ≤ 20000) : Calls Try.prog 30 #[v, .int .i64 j] w (PostX w (old w) (fun v => v) fun v => hint v (holders E j)) := by
  obtain ⟨a, cc, rfl, -, -⟩ := h.shape
  have HV := Lib.hid h; clear h
  obtain ⟨i0, hi, hz0, hz1, hz2⟩ := info_parts Try.infoI64
  have HI := Lib.hid hi; have HZ0 := Lib.hid hz0; have HZ1 := Lib.hid hz1; have HZ2 := Lib.hid hz2
  clear hi hz0 hz1 hz2
  go_enter Try.func30, Try.ntmps30
  go_wp2_with fail
  go_loopw [5, 6] (fun s i wr => ∃ k : Nat, k ≤ E.length ∧ i = .int .i64 k ∧ Holds wr (hint s (holders (E.take k) j) * old w) ∧ Quiet w wr) (fun _ i _ => E.length - (intOf i).toNat)
  case atStart => exact ⟨0, by omega, rfl, Holds.old.nilI, Quiet.refl _⟩
  case round =>
    obtain ⟨k, hk, rfl, hh, hq⟩ := hrel
    have HK := Lib.hid hk
    by_cases hlt : k < E.length
    · obtain ⟨r, hr⟩ : ∃ r, E[k]? = some r := ⟨_, List.getElem?_eq_getElem hlt⟩
      obtain ⟨g, off, cx, e, _, _, hc0⟩ := (HV.out.old hh).get (by omega)
      simp only [Value.slice.injEq] at e
      obtain ⟨rfl, _, rfl⟩ := e
      have hst := holders_step hr j
      obtain ⟨acc, hacc⟩ : ∃ acc, holders (E.take k) j = acc := ⟨_, rfl⟩
      have hal : acc.length ≤ 20000 := by rw [← hacc]; unfold holders; rw [List.length_map]; have := List.length_filter_le (fun e : Ev => e.has j) (E.take k); rw [List.length_take] at this; omega
      rw [hacc] at hh hst
      obtain ⟨⟨ep2, ⟨kd, nw, jb, tr, wk, tm⟩⟩, ⟨a0, a1, a2⟩, ⟨s1, s2, s3, s4⟩⟩ := r
      have y1 := evvs_cell hc0 hr 1 (.int .i64 kd) (by omega) rfl
      have y7 := evvs_cell hc0 hr 7 (.int .i64 a0) (by omega) rfl
      have y8 := evvs_cell hc0 hr 8 (.int .i64 a1) (by omega) rfl
      have mkS : ∀ (W : World) (A : HP), Holds W (A * old w) → W.cell? ⟨g, off + k * 14 + 5, none⟩ = some (.int .i64 wk) ∧ W.cell? ⟨g, off + k * 14 + 9, none⟩ = some (.int .i64 a2) := fun W A hW =>
        ⟨ev_old_cell HV.out hr hW 5 _ (by omega) rfl, ev_old_cell HV.out hr hW 9 _ (by omega) rfl⟩
      have MKS := Lib.hid mkS
      simp only [Ev.has] at hst
      have HST := Lib.hid hst
      obtain ⟨wo, rfl⟩ : ∃ wo : World, wo = wr := ⟨_, rfl⟩
      have HH := Lib.hid hh; have HQ := Lib.hid hq
      clear hh hq hr hc0 hacc hst mkS
      by_cases h2 : kd = 2
      · subst h2
        by_cases h0 : a0 = 0
        · subst h0
          by_cases h1 : a1 = j
          · subst h1
            have hst := HST.out
            simp only [decide_true, Bool.and_self, if_true] at hst
            have HS := Lib.hid hst
            clear hst HST
            have hbj : (a1 == a1) = true := by simp
            go_wp2_with fail
            refine wp_region_lex (fun W => W.cell? ⟨g, off + k * 14 + 5, none⟩ = some (.int .i64 wk) ∧ W.cell? ⟨g, off + k * 14 + 9, none⟩ = some (.int .i64 a2)) [14, 15] (by kernel_rfl) (by kernel_rfl) (MKS.out _ _ HH.out.drew) ?_
            repeat (first | (refine LexL.none (by rfl) ?_; (try simp only [Act.put, List.setIfInBounds_toArray, List.set_cons_zero, List.set_cons_succ])) | (refine LexL.still (v := ?_) (by rfl) ?_ ?_; rotate_left; (focus (intro W hW; (try dsimp only at hW); go_simp; (try (with_reducible rfl)); done)); (try simp only [Act.put, List.setIfInBounds_toArray, List.set_cons_zero, List.set_cons_succ])))
            have hb := HH.out.drew.boxRow (e := 3) 1 (n := 2) (cs := [.int .i64 wk, .int .i64 a2]) rfl (ivs_ones [wk, a2]) (by omega) rfl
            have HBX := Lib.hid hb; clear hb
            refine LexL.value (w1 := wo.drew.alloc (.cells #[.int .i64 wk, .int .i64 a2] 3)) (v := .slice (some ⟨wo.drew.heap.size, 0, none⟩) 2 2) (by rfl) (by decide) (by go_simp) (MKS.out _ _ (HBX.out.eq (HP.assoc _ _ _).symm)) ?_
            try simp only [Act.put, List.setIfInBounds_toArray, List.set_cons_zero, List.set_cons_succ]
            repeat (first | (refine LexL.none (by rfl) ?_; (try simp only [Act.put, List.setIfInBounds_toArray, List.set_cons_zero, List.set_cons_succ])) | (refine LexL.still (v := ?_) (by rfl) ?_ ?_; rotate_left; (focus (intro W hW; (try dsimp only at hW); go_simp; (try (with_reducible rfl)); done)); (try simp only [Act.put, List.setIfInBounds_toArray, List.set_cons_zero, List.set_cons_succ])))
            refine LexL.append _ _ 61 rfl 3 i0 _ 1 8 Try.underlying61 HI.out HZ0.out HZ1.out HZ2.out rfl (by decide) rfl rfl (by rfl) (by decide) (HBX.out.two) HBX.out.row rfl (ivs_ones [wk, a2]) (by omega) (by omega) ?_
            intro v' w' hv' hq'
            have HV' := Lib.hid hv'; have HQ' := Lib.hid hq'; clear hv' hq'
            refine ⟨MKS.out _ _ (HV'.out.eq (HP.assoc _ _ _).symm), ?_⟩
            try simp only [Act.put, List.setIfInBounds_toArray, List.set_cons_zero, List.set_cons_succ]
            repeat (first | (refine LexL.none (by rfl) ?_; (try simp only [Act.put, List.setIfInBounds_toArray, List.set_cons_zero, List.set_cons_succ])) | (refine LexL.still (v := ?_) (by rfl) ?_ ?_; rotate_left; (focus (intro W hW; (try dsimp only at hW); go_simp; (try (with_reducible rfl)); done)); (try simp only [Act.put, List.setIfInBounds_toArray, List.set_cons_zero, List.set_cons_succ])))
            refine LexL.done ?_
            go_wp2_with fail
            go_roundw
            case rel => exact ⟨k + 1, by omega, by go_num, by rw [HS.out]; exact (hint_fit acc wk a2 HV'.out).two.right, ((HQ.out.drew.alloc _).trans HQ'.out)⟩
            case measure => simp [intOf]; omega
          · have hbj : (a1 == j) = false := by simpa using h1
            have hst := HST.out
            simp only [h1, decide_true, decide_false, Bool.and_false, Bool.false_eq_true, if_false, List.append_nil] at hst
            have HS := Lib.hid hst
            clear hst HST h1
            go_wp2_with fail
            go_roundw
            case rel => exact ⟨k + 1, by omega, by go_num, by rw [HS.out]; exact HH.out, HQ.out⟩
            case measure => simp [intOf]; omega
        · have hb0 : (a0 == 0) = false := by simpa using h0
          have hst := HST.out
          simp only [h0, decide_true, decide_false, Bool.and_false, Bool.false_and, Bool.false_eq_true, if_false, List.append_nil] at hst
          have HS := Lib.hid hst
          clear hst HST h0
          go_wp2_with fail
          go_roundw
          case rel => exact ⟨k + 1, by omega, by go_num, by rw [HS.out]; exact HH.out, HQ.out⟩
          case measure => simp [intOf]; omega
      · have hb2 : (kd == 2) = false := by simpa using h2
        have hst := HST.out
        simp only [h2, decide_false, Bool.false_and, Bool.false_eq_true, if_false, List.append_nil] at hst
        have HS := Lib.hid hst
        clear hst HST h2
        go_wp2_with fail
        go_roundw
        case rel => exact ⟨k + 1, by omega, by go_num, by rw [HS.out]; exact HH.out, HQ.out⟩
        case measure => simp [intOf]; omega
    · obtain rfl : k = E.length := by omega
      go_wp2
      go_ret
      exact ⟨_, rfl, hq, by rw [List.take_length] at hh; exact hh⟩
theorem holdersOf_sl (v : Value) (E : List Ev) (j : Int) (w : World) (h : RowAt w v E.length (evvs E)) (hl : E.length ≤ 20000) {R : HP} (hr : Holds w R) : Calls Try.prog 30 #[v, .int .i64 j] w (PostX w R (fun v => v) fun v => hint v (holders E j)) :=
  (holdersOf_any v E j w h hl).mono fun e w' ⟨x, he, hq, hh⟩ => ⟨x, he, hq, hh.frame hr⟩
end Go.Proofs.Ytfihmpkkpgmdhab
