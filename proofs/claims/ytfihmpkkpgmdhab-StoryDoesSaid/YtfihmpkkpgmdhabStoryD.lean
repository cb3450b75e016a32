/-
  The story, walked: Holders.
-/
import Derived.Test.YtfihmpkkpgmdhabStoryC
namespace Go.Proofs.Ytfihmpkkpgmdhab
set_option linter.unusedSimpArgs false
set_option linter.unusedVariables false
open Go.RowKit
theorem Holds.reOwn {w : World} {e : TypeId} {s n : Nat} {v v' : Value} {xs : List Value} {R : HP} (h : Holds w (rw_ e s v n xs * R)) (h2 : OwnRow w e s v' n xs) (h3 : v'.ownBlock = v.ownBlock) : Holds w (rw_ e s v' n xs * R) :=
  h.imp fun F ⟨_, hF⟩ => ⟨h2, by rw [hF, h3]⟩
theorem Holds.nilH {w : World} {A : HP} (h : Holds w A) : Holds w (hold (.slice none 0 0) [] * A) := h.nilRow _ _
theorem evvs_cell0 {w : World} {g off : Nat} {l : List Ev} (h : ∀ j u, (evvs l)[j]? = some u → w.cell? ⟨g, off + j, none⟩ = some u) {i : Nat} {r : Ev} (hi : l[i]? = some r) : w.cell? ⟨g, off + i * 14, none⟩ = some (.int .i64 r.r.ep) := by
  have := evvs_cell h hi 0 _ (by omega) rfl
  rwa [Nat.add_zero] at this
set_option maxRecDepth 100000 in
set_option maxHeartbeats 8000000 in
theorem holders_any (v : Value) (E : List Ev) (j : Int) (w : World) (h : RowAt w v E.length (evvs E)) (hl : E.length ≤ 20000) : Calls Try.prog 29 #[v, .int .i64 j] w (PostX w (old w) (fun v => v) fun v => hold v (holders E j)) := by
  obtain ⟨a, cc, rfl, -, -⟩ := h.shape
  have HV := Lib.hid h; clear h
  obtain ⟨i0, hi, hz0, hz1, hz2⟩ := info_parts Try.infoPair
  have HI := Lib.hid hi; have HZ0 := Lib.hid hz0; have HZ1 := Lib.hid hz1; have HZ2 := Lib.hid hz2
  clear hi hz0 hz1 hz2
  go_enter Try.func29, Try.ntmps29
  go_wp2_with fail
  go_loopw [5, 10] (fun s i wr => ∃ k : Nat, k ≤ E.length ∧ i = .int .i64 k ∧ Holds wr (hold s (holders (E.take k) j) * old w) ∧ Quiet w wr) (fun _ i _ => E.length - (intOf i).toNat)
  case atStart => exact ⟨0, by omega, rfl, Holds.old.nilH, Quiet.refl _⟩
  case round =>
    obtain ⟨k, hk, rfl, hh, hq⟩ := hrel
    have HK := Lib.hid hk
    by_cases hlt : k < E.length
    · obtain ⟨r, hr⟩ : ∃ r, E[k]? = some r := ⟨_, List.getElem?_eq_getElem hlt⟩
      obtain ⟨g, off, cx, e, _, _, hc0⟩ := (HV.out.old hh).get (by omega)
      simp only [Value.slice.injEq] at e
      obtain ⟨rfl, _, rfl⟩ := e
      have hst := holders_step hr j
      obtain ⟨acc, hacc⟩ : ∃ acc, holders (E.take k) j = acc := ⟨_, rfl⟩
      have hal : acc.length ≤ 20000 := by rw [← hacc]; unfold holders; rw [List.length_map]; have := List.length_filter_le (fun e : Ev => e.has j) (E.take k); rw [List.length_take] at this; omega
      rw [hacc] at hh hst
      obtain ⟨⟨ep2, ⟨kd, nw, jb, tr, wk, tm⟩⟩, ⟨a0, a1, a2⟩, ⟨s1, s2, s3, s4⟩⟩ := r
      have y0 := evvs_cell0 hc0 hr
      have y1 := evvs_cell hc0 hr 1 _ (by omega) rfl
      have y2 := evvs_cell hc0 hr 2 _ (by omega) rfl
      have y3 := evvs_cell hc0 hr 3 _ (by omega) rfl
      have y4 := evvs_cell hc0 hr 4 _ (by omega) rfl
      have y5 := evvs_cell hc0 hr 5 _ (by omega) rfl
      have y6 := evvs_cell hc0 hr 6 _ (by omega) rfl
      have y7 := evvs_cell hc0 hr 7 _ (by omega) rfl
      have y8 := evvs_cell hc0 hr 8 _ (by omega) rfl
      have y9 := evvs_cell hc0 hr 9 _ (by omega) rfl
      have y10 := evvs_cell hc0 hr 10 _ (by omega) rfl
      have y11 := evvs_cell hc0 hr 11 _ (by omega) rfl
      have y12 := evvs_cell hc0 hr 12 _ (by omega) rfl
      have y13 := evvs_cell hc0 hr 13 _ (by omega) rfl
      dsimp only at y0 y1 y2 y3 y4 y5 y6 y7 y8 y9 y10 y11 y12 y13
      simp only [Ev.has] at hst
      have HST := Lib.hid hst
      obtain ⟨wo, rfl⟩ : ∃ wo : World, wo = wr := ⟨_, rfl⟩
      have hx := hh.boxB (ty := 50) (cs := [.int .i64 ep2, .int .i64 kd, .int .i64 nw, .int .i64 jb, .int .i64 tr, .int .i64 wk, .int .i64 tm, .int .i64 a0, .int .i64 a1, .int .i64 a2, .int .i64 s1, .int .i64 s2, .int .i64 s3, .int .i64 s4]) rfl
      have HB := Lib.hid hx; have QB := Lib.hid (hq.alloc (.cells ([.int .i64 ep2, .int .i64 kd, .int .i64 nw, .int .i64 jb, .int .i64 tr, .int .i64 wk, .int .i64 tm, .int .i64 a0, .int .i64 a1, .int .i64 a2, .int .i64 s1, .int .i64 s2, .int .i64 s3, .int .i64 s4] : List Value).toArray 50))
      have HH := Lib.hid hh; have HQ := Lib.hid hq
      clear hh hq hr hc0 hx hacc hst
      by_cases h2 : kd = 2
      · subst h2
        by_cases h0 : a0 = 0
        · subst h0
          by_cases h1 : a1 = j
          · subst h1
            have hst := HST.out
            simp only [decide_true, Bool.and_self, if_true] at hst
            have HS := Lib.hid hst
            clear hst HST
            have hn3 := (OwnRow.new (wo.alloc (.cells #[.int .i64 ep2, .int .i64 2, .int .i64 nw, .int .i64 jb, .int .i64 tr, .int .i64 wk, .int .i64 tm, .int .i64 0, .int .i64 a1, .int .i64 a2, .int .i64 s1, .int .i64 s2, .int .i64 s3, .int .i64 s4] 50)) 64 2 1 [.int .i64 wk, .int .i64 a2] rfl (ivs_ones [wk, a2]) (by omega)).row
            have ho3 := (HB.out.alloc (.cells #[.int .i64 wk, .int .i64 a2] 64)).two
            simp only [World.size_alloc] at hn3
            have HN3 := Lib.hid hn3; have HO3 := Lib.hid ho3; have QO3 := Lib.hid (QB.out.alloc (.cells #[.int .i64 wk, .int .i64 a2] 64)); clear hn3 ho3
            have hbj : (a1 == a1) = true := by simp
            go_wp2_with (at_builtin; refine wpList_append_sl rfl _ _ 59 rfl 64 i0 _ 2 16 Try.underlying59 HI.out HZ0.out HZ1.out HZ2.out rfl (by decide) rfl rfl HO3.out HN3.out rfl (ivs_ones [wk, a2]) (by omega) (by omega) ?_; intro v' w' hv' hq'; have HV' := Lib.hid hv'; have HQ' := Lib.hid hq'; clear hv' hq')
            go_roundw
            case rel => exact ⟨k + 1, by omega, by go_num, by rw [HS.out]; exact (HV'.out.two.right.eq (by unfold hold; rw [hvs_append, List.length_append]; rfl)), QO3.out.trans HQ'.out⟩
            case measure => simp [intOf]; omega
          · have hbj : (a1 == j) = false := by simpa using h1
            have hst := HST.out
            simp only [h1, decide_true, decide_false, Bool.and_false, Bool.false_eq_true, if_false, List.append_nil] at hst
            have HS := Lib.hid hst
            clear hst HST h1
            go_wp2_with fail
            go_roundw
            case rel => exact ⟨k + 1, by omega, by go_num, by rw [HS.out]; exact HB.out.right, QB.out⟩
            case measure => simp [intOf]; omega
        · have hb0 : (a0 == 0) = false := by simpa using h0
          have hst := HST.out
          simp only [h0, decide_true, decide_false, Bool.and_false, Bool.false_and, Bool.false_eq_true, if_false, List.append_nil] at hst
          have HS := Lib.hid hst
          clear hst HST h0
          go_wp2_with fail
          go_roundw
          case rel => exact ⟨k + 1, by omega, by go_num, by rw [HS.out]; exact HB.out.right, QB.out⟩
          case measure => simp [intOf]; omega
      · have hb2 : (kd == 2) = false := by simpa using h2
        have hst := HST.out
        simp only [h2, decide_false, Bool.false_and, Bool.false_eq_true, if_false, List.append_nil] at hst
        have HS := Lib.hid hst
        clear hst HST h2
        go_wp2_with fail
        go_roundw
        case rel => exact ⟨k + 1, by omega, by go_num, by rw [HS.out]; exact HB.out.right, QB.out⟩
        case measure => simp [intOf]; omega
    · obtain rfl : k = E.length := by omega
      go_wp2_with fail
      refine (clip_any _ _ _ _ hh.own).mono ?_
      rintro e w2 ⟨v', rfl, rfl, ho, hb⟩
      go_wp2
      go_ret
      exact ⟨_, rfl, hq, by rw [List.take_length] at hh ho; exact hh.reOwn ho hb⟩
theorem holders_sl (v : Value) (E : List Ev) (j : Int) (w : World) (h : RowAt w v E.length (evvs E)) (hl : E.length ≤ 20000) {R : HP} (hr : Holds w R) : Calls Try.prog 29 #[v, .int .i64 j] w (PostX w R (fun v => v) fun v => hold v (holders E j)) :=
  (holders_any v E j w h hl).mono fun e w' ⟨x, he, hq, hh⟩ => ⟨x, he, hq, hh.frame hr⟩
end Go.Proofs.Ytfihmpkkpgmdhab
