/-
  The story, walked: Table, Holders.
-/
import Derived.Test.YtfihmpkkpgmdhabStoryB
import Derived.Test.YtfihmpkkpgmdhabStpV
namespace Go.Proofs.Ytfihmpkkpgmdhab
set_option linter.unusedSimpArgs false
set_option linter.unusedVariables false
open Go.RowKit
theorem Try.infoPair : (Try.prog.info? 64).map (fun i => (i.zero, i.size, i.bytes)) = some (some (.agg #[.int .i64 0, .int .i64 0]), 2, 16) := by kernel_rfl
theorem stable_no (v : Value) (b : List UInt8) (n : Int) (w : World) (h : BytesAt w v b) (hl : b.length ≤ 100000) (hn : n < 0 ∨ ((allB b).length : Int) < n) {R : HP} (hr : Holds w R) :
    Calls Try.prog 25 #[v, .int .i64 n] w fun e w' => e = .returned (.pointer none) ∧ Quiet w w' ∧ Holds w' R := by
  obtain ⟨va, vc, rfl, -, -⟩ := h.shape
  have HV := Lib.hid h; have H := Lib.hid hr; clear h hr
  obtain ⟨L, hL⟩ : ∃ L, allB b = L := ⟨_, rfl⟩
  have HL := Lib.hid hL
  have hL9 := allB_len b
  rw [hL] at hL9 hn
  clear hL
  by_cases h0 : n < 0
  · clear hn
    go_enter Try.func25, Try.ntmps25
    go_wp2_with fail
    refine (all_sl _ b _ HV.out hl H.out).mono ?_
    rw [HL.out]
    rintro e w2 ⟨v2, rfl, q2, h2⟩
    obtain ⟨a, cc, rfl, c1, c2⟩ := h2.row.shape
    have H2 := Lib.hid h2; clear h2
    go_wp2
    go_ret
    exact ⟨rfl, q2, H2.out.right⟩
  · have hn2 : (L.length : Int) < n := by omega
    clear hn
    go_enter Try.func25, Try.ntmps25
    go_wp2_with fail
    refine (all_sl _ b _ HV.out hl H.out).mono ?_
    rw [HL.out]
    rintro e w2 ⟨v2, rfl, q2, h2⟩
    obtain ⟨a, cc, rfl, c1, c2⟩ := h2.row.shape
    have H2 := Lib.hid h2; clear h2
    go_wp2
    go_ret
    exact ⟨rfl, q2, H2.out.right⟩
set_option maxRecDepth 100000 in
set_option maxHeartbeats 8000000 in
theorem stable_any (v : Value) (b : List UInt8) (N : Nat) (w : World) (h : BytesAt w v b) (hl : b.length ≤ 100000) (hN : N ≤ (allB b).length) :
    Calls Try.prog 25 #[v, .int .i64 N] w (PostX w (old w) (fun b : Nat => .pointer (some ⟨b, 0, none⟩)) fun bt => tab bt (behind ((allB b).take N))) := by
  obtain ⟨va, vc, rfl, -, -⟩ := h.shape
  have HV := Lib.hid h; clear h
  have hL9 := allB_len b
  obtain ⟨L, hL⟩ : ∃ L, allB b = L := ⟨_, rfl⟩
  have HL := Lib.hid hL
  rw [hL] at hL9 hN ⊢
  clear hL
  go_enter Try.func25, Try.ntmps25
  go_wp2_with fail
  refine (all_sl _ b _ HV.out hl Holds.old).mono ?_
  rw [HL.out]
  rintro e w1 ⟨v2, rfl, q1, h1⟩
  obtain ⟨a, cc, rfl, c1, c2⟩ := h1.row.shape
  have H1 := Lib.hid (show Holds w1 (recs (.slice a L.length cc) L * old w) from h1); have Q1 := Lib.hid q1
  clear h1 q1
  have hNc : N ≤ cc := by omega
  go_wp2_with fail
  refine (new_sl _ H1.out).mono ?_
  rintro e w2 ⟨bt, rfl, q2, h2⟩
  have H2 := Lib.hid (show Holds w2 (tab bt Tbl.zero * (recs (.slice a L.length cc) L * old w)) from h2); have Q2 := Lib.hid (Q1.out.trans q2); clear h2 q2
  go_wp2_with fail
  go_loopw [24] (fun i wr => ∃ k : Nat, k ≤ N ∧ i = .int .i64 k ∧ Holds wr (tab bt (runL Tbl.zero (L.take k)) * (recs (.slice a L.length cc) L * old w)) ∧ Quiet w wr) (fun i _ => N - (intOf i).toNat)
  case atStart => exact ⟨0, by omega, rfl, H2.out, Q2.out⟩
  case round =>
    obtain ⟨k, hk, rfl, hh, hq⟩ := hrel
    have HK := Lib.hid hk
    by_cases hlt : k < N
    · obtain ⟨r, hr⟩ : ∃ r, L[k]? = some r := ⟨_, List.getElem?_eq_getElem (by omega)⟩
      obtain ⟨g, off, cx, e, _, _, hc0⟩ := hh.two.row.get (by omega)
      simp only [Value.slice.injEq] at e
      obtain ⟨rfl, _, rfl⟩ := e
      have hrun := Lib.hid (runL_step hr Tbl.zero)
      have hin := Lib.hid (runL_in Tbl.zero_in (L.take k))
      obtain ⟨ep2, ⟨kd, nw, jb, tr, wk, tm⟩⟩ := r
      have y0 := rvs_cell0 hc0 hr
      have y1 := rvs_cell hc0 hr 1 _ (by omega) rfl
      have y2 := rvs_cell hc0 hr 2 _ (by omega) rfl
      have y3 := rvs_cell hc0 hr 3 _ (by omega) rfl
      have y4 := rvs_cell hc0 hr 4 _ (by omega) rfl
      have y5 := rvs_cell hc0 hr 5 _ (by omega) rfl
      have y6 := rvs_cell hc0 hr 6 _ (by omega) rfl
      dsimp only at y0 y1 y2 y3 y4 y5 y6 hrun
      obtain ⟨T, hT⟩ : ∃ T, runL Tbl.zero (L.take k) = T := ⟨_, rfl⟩
      rw [hT] at hh hin hrun
      obtain ⟨wo, rfl⟩ : ∃ wo : World, wo = wr := ⟨_, rfl⟩
      have hx := hh.boxB (ty := 48) (cs := [.int .i64 ep2, .int .i64 kd, .int .i64 nw, .int .i64 jb, .int .i64 tr, .int .i64 wk, .int .i64 tm]) rfl
      have HB := Lib.hid hx; have QB := Lib.hid (hq.alloc (.cells ([.int .i64 ep2, .int .i64 kd, .int .i64 nw, .int .i64 jb, .int .i64 tr, .int .i64 wk, .int .i64 tm] : List Value).toArray 48))
      clear hh hq hr hc0 hx hT
      go_wp2_with fail
      clear y0 y1 y2 y3 y4 y5 y6
      refine (do_sl bt T kd nw jb tr wk tm _ (HB.out.two) hin.out.ok).mono ?_
      rintro e w3 ⟨rfl, q3, h3⟩
      have H3 := Lib.hid h3.two.right; have Q3 := Lib.hid (QB.out.trans q3)
      clear h3 q3
      go_wp2_with fail
      go_roundw
      case rel => exact ⟨k + 1, by omega, by go_num, by rw [hrun.out]; exact H3.out, Q3.out⟩
      case measure => simp [intOf]; omega
    · obtain rfl : k = N := by omega
      go_wp2
      go_ret
      exact ⟨_, rfl, hq, hh.two.right⟩
theorem stable_sl (v : Value) (b : List UInt8) (N : Nat) (w : World) (h : BytesAt w v b) (hl : b.length ≤ 100000) (hN : N ≤ (allB b).length) {R : HP} (hr : Holds w R) :
    Calls Try.prog 25 #[v, .int .i64 N] w (PostX w R (fun b : Nat => .pointer (some ⟨b, 0, none⟩)) fun bt => tab bt (behind ((allB b).take N))) :=
  (stable_any v b N w h hl hN).mono fun e w' ⟨x, he, hq, hh⟩ => ⟨x, he, hq, hh.frame hr⟩
def hvs (l : List (Int × Int)) : List Value := l.flatMap fun p => [.int .i64 p.1, .int .i64 p.2]
theorem hvs_append (l m : List (Int × Int)) : hvs (l ++ m) = hvs l ++ hvs m := by simp [hvs]
theorem hvs_get (l : List (Int × Int)) : ∀ (i : Nat) (p : Int × Int), l[i]? = some p → (hvs l)[i * 2]? = some (.int .i64 p.1) ∧ (hvs l)[i * 2 + 1]? = some (.int .i64 p.2) := by
  induction l with
  | nil => intro i p h; simp at h
  | cons q l ih =>
    intro i p h
    have e : hvs (q :: l) = [.int .i64 q.1, .int .i64 q.2] ++ hvs l := by simp [hvs]
    rw [e]
    cases i with
    | zero => simp at h; subst h; simp
    | succ i =>
      simp only [List.getElem?_cons_succ] at h
      obtain ⟨h1, h2⟩ := ih i p h
      rw [List.getElem?_append_right (by simp; omega), List.getElem?_append_right (by simp; omega)]
      simp only [List.length_cons, List.length_nil]
      rw [show (i + 1) * 2 - (0 + 1 + 1) = i * 2 by omega, show (i + 1) * 2 + 1 - (0 + 1 + 1) = i * 2 + 1 by omega]
      exact ⟨h1, h2⟩
def hold (v : Value) (l : List (Int × Int)) : HP := rw_ 64 2 v l.length (hvs l)
theorem holders_step {E : List Ev} {k : Nat} {e : Ev} (h : E[k]? = some e) (j : Int) : holders (E.take (k + 1)) j = holders (E.take k) j ++ (if e.has j then [(e.r.o.wk, e.a.tr)] else []) := by
  have hl := (List.getElem?_eq_some_iff.1 h).1
  rw [List.take_succ_eq_append_getElem hl, (List.getElem?_eq_some_iff.1 h).2]
  unfold holders
  rw [List.filter_append, List.map_append]
  congr 1
  by_cases hh : e.has j = true
  · simp [hh]
  · simp [hh]
theorem clip_any (v : Value) (n : Nat) (xs : List Value) (w : World) (h : OwnRow w 64 2 v n xs) :
    Calls Try.prog 58 #[v] w fun e w' => ∃ v', e = .returned v' ∧ w = w' ∧ OwnRow w 64 2 v' n xs ∧ v'.ownBlock = v.ownBlock := by
  obtain ⟨h1, h2, h3⟩ := h
  rcases h3 with ⟨rfl, rfl⟩ | ⟨g, cap, cur, rfl, hb, k1, k2, k3, k4⟩
  · go_enter Try.func58, Try.ntmps58
    go_wp2
    go_ret
    exact ⟨_, rfl, rfl, ⟨h1, h2, .inl ⟨rfl, rfl⟩⟩, rfl⟩
  · go_enter Try.func58, Try.ntmps58
    go_wp2
    go_ret
    exact ⟨_, rfl, rfl, ⟨h1, h2, .inr ⟨g, n, cur, rfl, hb, Nat.le_refl _, by omega, by omega, k4⟩⟩, rfl⟩
end Go.Proofs.Ytfihmpkkpgmdhab
