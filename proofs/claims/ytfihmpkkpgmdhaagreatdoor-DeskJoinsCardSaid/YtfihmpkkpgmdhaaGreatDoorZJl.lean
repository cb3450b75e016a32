/-
  What the proof of DeskJoins leans on: plain definitions and laws, and contracts of functions that it reaches. No condition besides those that each theorem names.
-/
import Derived.Test.YtfihmpkkpgmdhaaGreatDoorZJk
import Derived.Lib.IndexAny
import Derived.Test.YtfihmpkkpgmdhaaGreatDoorZJc
import Derived.RowKit
/-
  desk.line: what a line asks for is told.
-/
namespace Go.Proofs.YtfihmpkkpgmdhaaGreatDoor
set_option maxRecDepth 100000
set_option linter.unusedSimpArgs false
set_option linter.unusedVariables false
set_option linter.unnecessarySimpa false
open Go.RowKit
theorem what_len : (Lib.join [tWhat] [32]).length ≤ 1000000 := by rw [join_one']; decide
set_option maxHeartbeats 4000000 in
theorem line_none (b bg : Nat) (told : List UInt8) (g : Gld) (s : List UInt8) (hw : words s = []) (w : World) {w0 : World} {R : HP} (h : Holds w (kst b bg told * (gld bg g * (lay w0 * R)))) (hg : g.Good) (hs : s.length ≤ 9000) (ht : told.length ≤ 200000000) :
    Calls Tryz.prog 15 #[.pointer (some ⟨b, 0, none⟩), .string (strOf s)] w fun e w' => e = .returned (.tuple #[]) ∧ Quiet w w' ∧ Holds w' (kst b bg (told ++ []) * (gld bg g * (lay w0 * R))) := by
  have hsp := split_sl s w (lay_laid h.three) (by omega)
  have hpl := (pieces_len 32 s).1
  have hwl := words_len s
  have hwz := words_size s
  have hwn := words_ne s
  have hd := delete_sl (pieces 32 s) w.heap.size _ (by omega) (h.boxB (ty := 9) (cs := svls (pieces 32 s)) rfl)
  rw [words_eq, hw] at hd
  rw [hw] at hwl hwz hwn
  have hcap : 0 ≤ (pieces 32 s).length := by
    have := List.length_filter_le (fun x => !decide (x = [])) (pieces 32 s)
    rw [words_eq, hw] at this
    simpa using this
  obtain ⟨N, hN⟩ : ∃ N, (pieces 32 s).length = N := ⟨_, rfl⟩
  rw [hN] at hsp hd hcap hpl
  have HS := Lib.hid hsp; have HD := Lib.hid hd; have HG := Lib.hid hg; have HZ := Lib.hid hwz; have HN := Lib.hid hwn; have HWL := Lib.hid hwl
  clear h hsp hd hg hN hwz hwn hwl hw
  go_enter Tryz.func15, Tryz.ntmps15
  go_wp2_with fail
  refine HS.out.mono ?_
  rintro e w1 ⟨rfl, rfl⟩
  go_wp2_with fail
  refine HD.out.mono ?_
  rintro e w2 ⟨rfl, q2, h2⟩
  have Q2 := Lib.hid (((Quiet.refl w).alloc (.cells (svls (pieces 32 s)).toArray 9)).trans q2)
  have H2 := Lib.hid h2
  clear h2 q2
  go_wp2
  first | go_end0 | ((try simp only [Exit.inBlock, Exit.then]); refine bodyPost_ret (results_none rfl _ _ _) rfl ?_)
  exact ⟨rfl, Q2.out, by simpa using H2.out.right⟩
set_option maxHeartbeats 4000000 in
theorem line_node (b bg : Nat) (told : List UInt8) (g : Gld) (s : List UInt8) (x : List UInt8) (r : List (List UInt8)) (hw : words s = x :: r) (X : Stp) (t : Bool) (hq : nodeReq (x :: r) = some (X, t)) (w : World) {w0 : World} {R : HP} (h : Holds w (kst b bg told * (gld bg g * (lay w0 * R)))) (hg : g.Good) (hs : s.length ≤ 9000) (ht : told.length ≤ 200000000) :
    Calls Tryz.prog 15 #[.pointer (some ⟨b, 0, none⟩), .string (strOf s)] w fun e w' => e = .returned (.tuple #[]) ∧ Quiet w w' ∧ Holds w' (kst b bg (told ++ line (ansTxt (g.step X).2 t)) * (gld bg (g.step X).1 * (lay w0 * R))) := by
  have hsp := split_sl s w (lay_laid h.three) (by omega)
  have hpl := (pieces_len 32 s).1
  have hwl := words_len s
  have hwz := words_size s
  have hwn := words_ne s
  have hd := delete_sl (pieces 32 s) w.heap.size _ (by omega) (h.boxB (ty := 9) (cs := svls (pieces 32 s)) rfl)
  rw [words_eq, hw] at hd
  rw [hw] at hwl hwz hwn
  have hcap : (x :: r).length ≤ (pieces 32 s).length := by
    have := List.length_filter_le (fun x => !decide (x = [])) (pieces 32 s)
    rw [words_eq, hw] at this
    simpa using this
  obtain ⟨N, hN⟩ : ∃ N, (pieces 32 s).length = N := ⟨_, rfl⟩
  rw [hN] at hsp hd hcap hpl
  have HS := Lib.hid hsp; have HD := Lib.hid hd; have HG := Lib.hid hg; have HZ := Lib.hid hwz; have HN := Lib.hid hwn; have HWL := Lib.hid hwl
  clear h hsp hd hg hN hwz hwn hwl hw
  have HQ := Lib.hid hq; clear hq
  go_enter Tryz.func15, Tryz.ntmps15
  go_wp2_with fail
  refine HS.out.mono ?_
  rintro e w1 ⟨rfl, rfl⟩
  go_wp2_with fail
  refine HD.out.mono ?_
  rintro e w2 ⟨rfl, q2, h2⟩
  have Q2 := Lib.hid (((Quiet.refl w).alloc (.cells (svls (pieces 32 s)).toArray 9)).trans q2)
  have H2 := Lib.hid (h2.eq (by ac_rfl : _ = kst b bg told * (gld bg g * (wds (.slice (some ⟨w.heap.size, 0, none⟩) (r.length + 1) N) (x :: r) * (lay w0 * R)))))
  have hcx : w2.cell? ⟨w.heap.size, 0, none⟩ = some (.string (strOf x)) := wds_cells h2 0 x rfl
  clear h2 q2
  have hn0 : ¬ ((r.length : Int) + 1) = 0 := by omega
  have hn1 : decide (((r.length : Int) + 1) = 0) = false := by simpa using hn0
  simp only [List.length_cons, Int.natCast_add, Int.cast_ofNat_Int] at *
  go_wp2_with fail
  refine (node_yes b bg told g _ (x :: r) X t _ H2.out HG.out (by have := HWL.out; simp only [List.length_cons, List.length_nil] at this ⊢; omega) (fun y hy => by have := HZ.out y hy; omega) HQ.out (by omega)).mono ?_
  rintro e w3 ⟨rfl, q3, h3⟩
  have H3 := Lib.hid h3; have Q3 := Lib.hid (Q2.out.trans q3)
  clear h3 q3
  go_wp2
  first | go_end0 | ((try simp only [Exit.inBlock, Exit.then]); refine bodyPost_ret (results_none rfl _ _ _) rfl ?_)
  exact ⟨rfl, Q3.out, H3.out.three.right.eq (by ac_rfl)⟩
theorem wds_rest {w : World} {g n c : Nat} {x : List UInt8} {r : List (List UInt8)} {A : HP} (h : Holds w (wds (.slice (some ⟨g, 0, none⟩) n c) (x :: r) * A)) (hn : n = r.length + 1) : RowAt w (.slice (if c = 1 then some ⟨g, 0, none⟩ else some ⟨g, 1, none⟩) r.length (c - 1)) r.length (svls r) := by
  obtain ⟨gg, cc, e, h1, h2⟩ := wds_cons h
  simp only [Value.slice.injEq, Option.some.injEq, Addr.mk.injEq, and_true] at e
  obtain ⟨rfl, _, rfl⟩ := e
  by_cases hr : r = []
  · subst hr
    refine ⟨_, _, rfl, Nat.zero_le _, by unfold maxLen; omega, fun e => ?_, fun e => absurd rfl e⟩
    split at e <;> cases e
  · have hl : r.length ≠ 0 := fun e => hr (List.length_eq_zero_iff.1 e)
    rw [if_neg (by omega)]
    have := wds_tail h (by simpa using hn) (q := 1) (m := r.length) (d := c - 1) (by omega) (by omega)
    simpa using this
set_option maxHeartbeats 4000000 in
theorem line_bad (b bg : Nat) (told : List UInt8) (g : Gld) (s : List UInt8) (x : List UInt8) (r : List (List UInt8)) (hw : words s = x :: r) (hq : nodeReq (x :: r) = none) (hm : numsOf r = none) (w : World) {w0 : World} {R : HP} (h : Holds w (kst b bg told * (gld bg g * (lay w0 * R)))) (hg : g.Good) (hs : s.length ≤ 9000) (ht : told.length ≤ 200000000) :
    Calls Tryz.prog 15 #[.pointer (some ⟨b, 0, none⟩), .string (strOf s)] w fun e w' => e = .returned (.tuple #[]) ∧ Quiet w w' ∧ Holds w' (kst b bg (told ++ line tWhat) * (gld bg g * (lay w0 * R))) := by
  have hsp := split_sl s w (lay_laid h.three) (by omega)
  have hpl := (pieces_len 32 s).1
  have hwl := words_len s
  have hwz := words_size s
  have hwn := words_ne s
  have hd := delete_sl (pieces 32 s) w.heap.size _ (by omega) (h.boxB (ty := 9) (cs := svls (pieces 32 s)) rfl)
  rw [words_eq, hw] at hd
  rw [hw] at hwl hwz hwn
  have hcap : (x :: r).length ≤ (pieces 32 s).length := by
    have := List.length_filter_le (fun x => !decide (x = [])) (pieces 32 s)
    rw [words_eq, hw] at this
    simpa using this
  obtain ⟨N, hN⟩ : ∃ N, (pieces 32 s).length = N := ⟨_, rfl⟩
  rw [hN] at hsp hd hcap hpl
  have HS := Lib.hid hsp; have HD := Lib.hid hd; have HG := Lib.hid hg; have HZ := Lib.hid hwz; have HN := Lib.hid hwn; have HWL := Lib.hid hwl
  clear h hsp hd hg hN hwz hwn hwl hw
  have HQ := Lib.hid hq; have HM := Lib.hid hm; clear hq hm
  by_cases hN1 : N = 1
  · subst hN1
    obtain rfl : r = [] := List.length_eq_zero_iff.1 (by have := hcap; simp only [List.length_cons] at this; omega)
    go_enter Tryz.func15, Tryz.ntmps15
    go_wp2_with fail
    refine HS.out.mono ?_
    rintro e w1 ⟨rfl, rfl⟩
    go_wp2_with fail
    refine HD.out.mono ?_
    rintro e w2 ⟨rfl, q2, h2⟩
    have Q2 := Lib.hid (((Quiet.refl w).alloc (.cells (svls (pieces 32 s)).toArray 9)).trans q2)
    have H2 := Lib.hid (h2.eq (by ac_rfl : _ = kst b bg told * (gld bg g * (wds (.slice (some ⟨w.heap.size, 0, none⟩) 1 1) [x] * (lay w0 * R)))))
    have hcx : w2.cell? ⟨w.heap.size, 0, none⟩ = some (.string (strOf x)) := wds_cells h2 0 x rfl
    clear h2 q2
    simp only [List.length_cons, List.length_nil, Nat.zero_add] at *
    go_wp2_with fail
    refine (node_no b bg told g _ [x] _ H2.out HG.out (by simp) (by have := HWL.out; simp only [List.length_cons, List.length_nil] at this ⊢; omega) (fun y hy => by have := HZ.out y hy; omega) HN.out HQ.out (by omega)).mono ?_
    rintro e w3 ⟨rfl, q3, h3⟩
    have H3 := Lib.hid h3; have Q3 := Lib.hid (Q2.out.trans q3)
    have hcy : w3.cell? ⟨w.heap.size, 0, none⟩ = some (.string (strOf x)) := wds_cells h3.three 0 x rfl
    have hrow := wds_rest h3.three rfl
    simp only [if_true, Nat.sub_self] at hrow
    have HRR := Lib.hid hrow
    clear h3 q3 hcx hrow
    go_wp2_with fail
    refine (numbers_no _ [] _ (H3.out.eq (by ac_rfl : _ = lay w0 * (kst b bg told * (gld bg g * (wds (.slice (some ⟨w.heap.size, 0, none⟩) 1 1) [x] * R))))) HRR.out (by have := HWL.out; (try simp only [List.length_cons, List.length_nil] at this ⊢); omega) (fun y hy => by have := HZ.out y (List.mem_cons_of_mem _ hy); omega) HM.out).mono ?_
    rintro e w4 ⟨rfl, q4, h4⟩
    have H4 := Lib.hid (h4.eq (by ac_rfl : _ = kst b bg told * (gld bg g * (wds (.slice (some ⟨w.heap.size, 0, none⟩) 1 1) [x] * (lay w0 * R))))); have Q4 := Lib.hid (Q3.out.trans q4)
    clear h4 q4
    go_wp2_with (go_at_call 28; refine (say_sl b bg told _ [tWhat] _ (H4.out.alloc (.cells (svls [tWhat]).toArray 9)) (svls_row rfl (by simp) _ rfl _) (by simp) (by simp) (by omega) what_len).mono ?_; rintro e w9 ⟨rfl, q9, h9⟩)
    rw [join_one'] at h9
    first | go_end0 | ((try simp only [Exit.inBlock, Exit.then]); refine bodyPost_ret (results_none rfl _ _ _) rfl ?_)
    exact ⟨rfl, (Q4.out.alloc _).trans q9, h9.three.right.eq (by ac_rfl)⟩
  · have hN2 : 2 ≤ N := by simp at hcap; omega
    have HN1 := Lib.hid hN1
    clear hN1
    go_enter Tryz.func15, Tryz.ntmps15
    go_wp2_with fail
    refine HS.out.mono ?_
    rintro e w1 ⟨rfl, rfl⟩
    go_wp2_with fail
    refine HD.out.mono ?_
    rintro e w2 ⟨rfl, q2, h2⟩
    have Q2 := Lib.hid (((Quiet.refl w).alloc (.cells (svls (pieces 32 s)).toArray 9)).trans q2)
    have H2 := Lib.hid (h2.eq (by ac_rfl : _ = kst b bg told * (gld bg g * (wds (.slice (some ⟨w.heap.size, 0, none⟩) (r.length + 1) N) (x :: r) * (lay w0 * R)))))
    have hcx : w2.cell? ⟨w.heap.size, 0, none⟩ = some (.string (strOf x)) := wds_cells h2 0 x rfl
    clear h2 q2
    have hn0 : ¬ ((r.length : Int) + 1) = 0 := by omega
    have hn1 : decide (((r.length : Int) + 1) = 0) = false := by simpa using hn0
    simp only [List.length_cons, Int.natCast_add, Int.cast_ofNat_Int] at *
    go_wp2_with fail
    refine (node_no b bg told g _ (x :: r) _ H2.out HG.out (by simp) (by have := HWL.out; simp only [List.length_cons, List.length_nil] at this ⊢; omega) (fun y hy => by have := HZ.out y hy; omega) HN.out HQ.out (by omega)).mono ?_
    rintro e w3 ⟨rfl, q3, h3⟩
    have H3 := Lib.hid h3; have Q3 := Lib.hid (Q2.out.trans q3)
    have hcy : w3.cell? ⟨w.heap.size, 0, none⟩ = some (.string (strOf x)) := wds_cells h3.three 0 x rfl
    have hrow := wds_rest h3.three rfl
    simp only [if_neg HN1.out] at hrow
    have HRR := Lib.hid hrow
    clear h3 q3 hcx hrow
    go_wp2_with fail
    refine (numbers_no _ r _ (H3.out.eq (by ac_rfl : _ = lay w0 * (kst b bg told * (gld bg g * (wds (.slice (some ⟨w.heap.size, 0, none⟩) (r.length + 1) N) (x :: r) * R))))) HRR.out (by have := HWL.out; (try simp only [List.length_cons, List.length_nil] at this ⊢); omega) (fun y hy => by have := HZ.out y (List.mem_cons_of_mem _ hy); omega) HM.out).mono ?_
    rintro e w4 ⟨rfl, q4, h4⟩
    have H4 := Lib.hid (h4.eq (by ac_rfl : _ = kst b bg told * (gld bg g * (wds (.slice (some ⟨w.heap.size, 0, none⟩) (r.length + 1) N) (x :: r) * (lay w0 * R))))); have Q4 := Lib.hid (Q3.out.trans q4)
    clear h4 q4
    go_wp2_with (go_at_call 28; refine (say_sl b bg told _ [tWhat] _ (H4.out.alloc (.cells (svls [tWhat]).toArray 9)) (svls_row rfl (by simp) _ rfl _) (by simp) (by simp) (by omega) what_len).mono ?_; rintro e w9 ⟨rfl, q9, h9⟩)
    rw [join_one'] at h9
    first | go_end0 | ((try simp only [Exit.inBlock, Exit.then]); refine bodyPost_ret (results_none rfl _ _ _) rfl ?_)
    exact ⟨rfl, (Q4.out.alloc _).trans q9, h9.three.right.eq (by ac_rfl)⟩
set_option maxHeartbeats 4000000 in
theorem line_step (b bg : Nat) (told : List UInt8) (g : Gld) (s : List UInt8) (x : List UInt8) (r : List (List UInt8)) (hw : words s = x :: r) (hq : nodeReq (x :: r) = none) (n : List Int) (hm : numsOf r = some n) (X : Stp) (hx : stepReq x n = some X) (w : World) {w0 : World} {R : HP} (h : Holds w (kst b bg told * (gld bg g * (lay w0 * R)))) (hg : g.Good) (hs : s.length ≤ 9000) (ht : told.length ≤ 200000000) :
    Calls Tryz.prog 15 #[.pointer (some ⟨b, 0, none⟩), .string (strOf s)] w fun e w' => e = .returned (.tuple #[]) ∧ Quiet w w' ∧ Holds w' (kst b bg (told ++ line (ansTxt (g.step X).2 false)) * (gld bg (g.step X).1 * (lay w0 * R))) := by
  have hsp := split_sl s w (lay_laid h.three) (by omega)
  have hpl := (pieces_len 32 s).1
  have hwl := words_len s
  have hwz := words_size s
  have hwn := words_ne s
  have hd := delete_sl (pieces 32 s) w.heap.size _ (by omega) (h.boxB (ty := 9) (cs := svls (pieces 32 s)) rfl)
  rw [words_eq, hw] at hd
  rw [hw] at hwl hwz hwn
  have hcap : (x :: r).length ≤ (pieces 32 s).length := by
    have := List.length_filter_le (fun x => !decide (x = [])) (pieces 32 s)
    rw [words_eq, hw] at this
    simpa using this
  obtain ⟨N, hN⟩ : ∃ N, (pieces 32 s).length = N := ⟨_, rfl⟩
  rw [hN] at hsp hd hcap hpl
  have HS := Lib.hid hsp; have HD := Lib.hid hd; have HG := Lib.hid hg; have HZ := Lib.hid hwz; have HN := Lib.hid hwn; have HWL := Lib.hid hwl
  clear h hsp hd hg hN hwz hwn hwl hw
  have HQ := Lib.hid hq; have HM := Lib.hid hm; have HX := Lib.hid hx; clear hq hm hx
  by_cases hN1 : N = 1
  · subst hN1
    obtain rfl : r = [] := List.length_eq_zero_iff.1 (by have := hcap; simp only [List.length_cons] at this; omega)
    go_enter Tryz.func15, Tryz.ntmps15
    go_wp2_with fail
    refine HS.out.mono ?_
    rintro e w1 ⟨rfl, rfl⟩
    go_wp2_with fail
    refine HD.out.mono ?_
    rintro e w2 ⟨rfl, q2, h2⟩
    have Q2 := Lib.hid (((Quiet.refl w).alloc (.cells (svls (pieces 32 s)).toArray 9)).trans q2)
    have H2 := Lib.hid (h2.eq (by ac_rfl : _ = kst b bg told * (gld bg g * (wds (.slice (some ⟨w.heap.size, 0, none⟩) 1 1) [x] * (lay w0 * R)))))
    have hcx : w2.cell? ⟨w.heap.size, 0, none⟩ = some (.string (strOf x)) := wds_cells h2 0 x rfl
    clear h2 q2
    simp only [List.length_cons, List.length_nil, Nat.zero_add] at *
    go_wp2_with fail
    refine (node_no b bg told g _ [x] _ H2.out HG.out (by simp) (by have := HWL.out; simp only [List.length_cons, List.length_nil] at this ⊢; omega) (fun y hy => by have := HZ.out y hy; omega) HN.out HQ.out (by omega)).mono ?_
    rintro e w3 ⟨rfl, q3, h3⟩
    have H3 := Lib.hid h3; have Q3 := Lib.hid (Q2.out.trans q3)
    have hcy : w3.cell? ⟨w.heap.size, 0, none⟩ = some (.string (strOf x)) := wds_cells h3.three 0 x rfl
    have hrow := wds_rest h3.three rfl
    simp only [if_true, Nat.sub_self] at hrow
    have HRR := Lib.hid hrow
    clear h3 q3 hcx hrow
    go_wp2_with fail
    refine (numbers_sl _ [] n _ (H3.out.eq (by ac_rfl : _ = lay w0 * (kst b bg told * (gld bg g * (wds (.slice (some ⟨w.heap.size, 0, none⟩) 1 1) [x] * R))))) HRR.out (by have := HWL.out; (try simp only [List.length_cons, List.length_nil] at this ⊢); omega) (fun y hy => by have := HZ.out y (List.mem_cons_of_mem _ hy); omega) HM.out).mono ?_
    rintro e w4 ⟨v4, rfl, q4, h4⟩
    replace h4 : Holds w4 (inum v4 n * (lay w0 * (kst b bg told * (gld bg g * (wds (.slice (some ⟨w.heap.size, 0, none⟩) 1 1) [x] * R))))) := h4
    have hc4 : w4.cell? ⟨w.heap.size, 0, none⟩ = some (.string (strOf x)) := wds_cells (h4.eq (by ac_rfl : _ = wds (.slice (some ⟨w.heap.size, 0, none⟩) 1 1) [x] * (inum v4 n * (lay w0 * (kst b bg told * (gld bg g * R)))))) 0 x rfl
    have H4 := Lib.hid (h4.eq (by ac_rfl : _ = kst b bg told * (gld bg g * (inum v4 n * (lay w0 * (wds (.slice (some ⟨w.heap.size, 0, none⟩) 1 1) [x] * R)))))); have Q4 := Lib.hid (Q3.out.trans q4)
    clear h4 q4 hcy
    go_wp2_with fail
    refine (step_sl b bg told g v4 x n X _ H4.out HG.out (by omega) HX.out).mono ?_
    rintro e w5 ⟨rfl, q5, h5⟩
    have H5 := Lib.hid h5; have Q5 := Lib.hid (Q4.out.trans q5)
    clear h5 q5
    go_wp2
    first | go_end0 | ((try simp only [Exit.inBlock, Exit.then]); refine bodyPost_ret (results_none rfl _ _ _) rfl ?_)
    exact ⟨rfl, Q5.out, (H5.out.eq (by ac_rfl : _ = inum v4 n * (wds (.slice (some ⟨w.heap.size, 0, none⟩) 1 1) [x] * (kst b bg (told ++ line (ansTxt (g.step X).2 false)) * (gld bg (g.step X).1 * (lay w0 * R)))))).right.right⟩
  · have hN2 : 2 ≤ N := by simp at hcap; omega
    have HN1 := Lib.hid hN1
    clear hN1
    go_enter Tryz.func15, Tryz.ntmps15
    go_wp2_with fail
    refine HS.out.mono ?_
    rintro e w1 ⟨rfl, rfl⟩
    go_wp2_with fail
    refine HD.out.mono ?_
    rintro e w2 ⟨rfl, q2, h2⟩
    have Q2 := Lib.hid (((Quiet.refl w).alloc (.cells (svls (pieces 32 s)).toArray 9)).trans q2)
    have H2 := Lib.hid (h2.eq (by ac_rfl : _ = kst b bg told * (gld bg g * (wds (.slice (some ⟨w.heap.size, 0, none⟩) (r.length + 1) N) (x :: r) * (lay w0 * R)))))
    have hcx : w2.cell? ⟨w.heap.size, 0, none⟩ = some (.string (strOf x)) := wds_cells h2 0 x rfl
    clear h2 q2
    have hn0 : ¬ ((r.length : Int) + 1) = 0 := by omega
    have hn1 : decide (((r.length : Int) + 1) = 0) = false := by simpa using hn0
    simp only [List.length_cons, Int.natCast_add, Int.cast_ofNat_Int] at *
    go_wp2_with fail
    refine (node_no b bg told g _ (x :: r) _ H2.out HG.out (by simp) (by have := HWL.out; simp only [List.length_cons, List.length_nil] at this ⊢; omega) (fun y hy => by have := HZ.out y hy; omega) HN.out HQ.out (by omega)).mono ?_
    rintro e w3 ⟨rfl, q3, h3⟩
    have H3 := Lib.hid h3; have Q3 := Lib.hid (Q2.out.trans q3)
    have hcy : w3.cell? ⟨w.heap.size, 0, none⟩ = some (.string (strOf x)) := wds_cells h3.three 0 x rfl
    have hrow := wds_rest h3.three rfl
    simp only [if_neg HN1.out] at hrow
    have HRR := Lib.hid hrow
    clear h3 q3 hcx hrow
    go_wp2_with fail
    refine (numbers_sl _ r n _ (H3.out.eq (by ac_rfl : _ = lay w0 * (kst b bg told * (gld bg g * (wds (.slice (some ⟨w.heap.size, 0, none⟩) (r.length + 1) N) (x :: r) * R))))) HRR.out (by have := HWL.out; (try simp only [List.length_cons, List.length_nil] at this ⊢); omega) (fun y hy => by have := HZ.out y (List.mem_cons_of_mem _ hy); omega) HM.out).mono ?_
    rintro e w4 ⟨v4, rfl, q4, h4⟩
    replace h4 : Holds w4 (inum v4 n * (lay w0 * (kst b bg told * (gld bg g * (wds (.slice (some ⟨w.heap.size, 0, none⟩) (r.length + 1) N) (x :: r) * R))))) := h4
    have hc4 : w4.cell? ⟨w.heap.size, 0, none⟩ = some (.string (strOf x)) := wds_cells (h4.eq (by ac_rfl : _ = wds (.slice (some ⟨w.heap.size, 0, none⟩) (r.length + 1) N) (x :: r) * (inum v4 n * (lay w0 * (kst b bg told * (gld bg g * R)))))) 0 x rfl
    have H4 := Lib.hid (h4.eq (by ac_rfl : _ = kst b bg told * (gld bg g * (inum v4 n * (lay w0 * (wds (.slice (some ⟨w.heap.size, 0, none⟩) (r.length + 1) N) (x :: r) * R)))))); have Q4 := Lib.hid (Q3.out.trans q4)
    clear h4 q4 hcy
    go_wp2_with fail
    refine (step_sl b bg told g v4 x n X _ H4.out HG.out (by omega) HX.out).mono ?_
    rintro e w5 ⟨rfl, q5, h5⟩
    have H5 := Lib.hid h5; have Q5 := Lib.hid (Q4.out.trans q5)
    clear h5 q5
    go_wp2
    first | go_end0 | ((try simp only [Exit.inBlock, Exit.then]); refine bodyPost_ret (results_none rfl _ _ _) rfl ?_)
    exact ⟨rfl, Q5.out, (H5.out.eq (by ac_rfl : _ = inum v4 n * (wds (.slice (some ⟨w.heap.size, 0, none⟩) (r.length + 1) N) (x :: r) * (kst b bg (told ++ line (ansTxt (g.step X).2 false)) * (gld bg (g.step X).1 * (lay w0 * R)))))).right.right⟩
set_option maxHeartbeats 4000000 in
theorem line_ask (b bg : Nat) (told : List UInt8) (g : Gld) (s : List UInt8) (x : List UInt8) (r : List (List UInt8)) (hw : words s = x :: r) (hq : nodeReq (x :: r) = none) (n : List Int) (hm : numsOf r = some n) (hx : stepReq x n = none) (ha : askReq x n ≠ .what) (w : World) {w0 : World} {R : HP} (h : Holds w (kst b bg told * (gld bg g * (lay w0 * R)))) (hg : g.Good) (hs : s.length ≤ 9000) (ht : told.length ≤ 200000000) :
    Calls Tryz.prog 15 #[.pointer (some ⟨b, 0, none⟩), .string (strOf s)] w fun e w' => e = .returned (.tuple #[]) ∧ Quiet w w' ∧ Holds w' (kst b bg (told ++ (tell g (askReq x n)).2) * (gld bg (tell g (askReq x n)).1 * (lay w0 * R))) := by
  have hsp := split_sl s w (lay_laid h.three) (by omega)
  have hpl := (pieces_len 32 s).1
  have hwl := words_len s
  have hwz := words_size s
  have hwn := words_ne s
  have hd := delete_sl (pieces 32 s) w.heap.size _ (by omega) (h.boxB (ty := 9) (cs := svls (pieces 32 s)) rfl)
  rw [words_eq, hw] at hd
  rw [hw] at hwl hwz hwn
  have hcap : (x :: r).length ≤ (pieces 32 s).length := by
    have := List.length_filter_le (fun x => !decide (x = [])) (pieces 32 s)
    rw [words_eq, hw] at this
    simpa using this
  obtain ⟨N, hN⟩ : ∃ N, (pieces 32 s).length = N := ⟨_, rfl⟩
  rw [hN] at hsp hd hcap hpl
  have HS := Lib.hid hsp; have HD := Lib.hid hd; have HG := Lib.hid hg; have HZ := Lib.hid hwz; have HN := Lib.hid hwn; have HWL := Lib.hid hwl
  clear h hsp hd hg hN hwz hwn hwl hw
  have HQ := Lib.hid hq; have HM := Lib.hid hm; have HX := Lib.hid hx; have HA := Lib.hid ha; clear hq hm hx ha
  by_cases hN1 : N = 1
  · subst hN1
    obtain rfl : r = [] := List.length_eq_zero_iff.1 (by have := hcap; simp only [List.length_cons] at this; omega)
    go_enter Tryz.func15, Tryz.ntmps15
    go_wp2_with fail
    refine HS.out.mono ?_
    rintro e w1 ⟨rfl, rfl⟩
    go_wp2_with fail
    refine HD.out.mono ?_
    rintro e w2 ⟨rfl, q2, h2⟩
    have Q2 := Lib.hid (((Quiet.refl w).alloc (.cells (svls (pieces 32 s)).toArray 9)).trans q2)
    have H2 := Lib.hid (h2.eq (by ac_rfl : _ = kst b bg told * (gld bg g * (wds (.slice (some ⟨w.heap.size, 0, none⟩) 1 1) [x] * (lay w0 * R)))))
    have hcx : w2.cell? ⟨w.heap.size, 0, none⟩ = some (.string (strOf x)) := wds_cells h2 0 x rfl
    clear h2 q2
    simp only [List.length_cons, List.length_nil, Nat.zero_add] at *
    go_wp2_with fail
    refine (node_no b bg told g _ [x] _ H2.out HG.out (by simp) (by have := HWL.out; simp only [List.length_cons, List.length_nil] at this ⊢; omega) (fun y hy => by have := HZ.out y hy; omega) HN.out HQ.out (by omega)).mono ?_
    rintro e w3 ⟨rfl, q3, h3⟩
    have H3 := Lib.hid h3; have Q3 := Lib.hid (Q2.out.trans q3)
    have hcy : w3.cell? ⟨w.heap.size, 0, none⟩ = some (.string (strOf x)) := wds_cells h3.three 0 x rfl
    have hrow := wds_rest h3.three rfl
    simp only [if_true, Nat.sub_self] at hrow
    have HRR := Lib.hid hrow
    clear h3 q3 hcx hrow
    go_wp2_with fail
    refine (numbers_sl _ [] n _ (H3.out.eq (by ac_rfl : _ = lay w0 * (kst b bg told * (gld bg g * (wds (.slice (some ⟨w.heap.size, 0, none⟩) 1 1) [x] * R))))) HRR.out (by have := HWL.out; (try simp only [List.length_cons, List.length_nil] at this ⊢); omega) (fun y hy => by have := HZ.out y (List.mem_cons_of_mem _ hy); omega) HM.out).mono ?_
    rintro e w4 ⟨v4, rfl, q4, h4⟩
    replace h4 : Holds w4 (inum v4 n * (lay w0 * (kst b bg told * (gld bg g * (wds (.slice (some ⟨w.heap.size, 0, none⟩) 1 1) [x] * R))))) := h4
    have hc4 : w4.cell? ⟨w.heap.size, 0, none⟩ = some (.string (strOf x)) := wds_cells (h4.eq (by ac_rfl : _ = wds (.slice (some ⟨w.heap.size, 0, none⟩) 1 1) [x] * (inum v4 n * (lay w0 * (kst b bg told * (gld bg g * R)))))) 0 x rfl
    have H4 := Lib.hid (h4.eq (by ac_rfl : _ = kst b bg told * (gld bg g * (inum v4 n * (lay w0 * (wds (.slice (some ⟨w.heap.size, 0, none⟩) 1 1) [x] * R)))))); have Q4 := Lib.hid (Q3.out.trans q4)
    clear h4 q4 hcy
    go_wp2_with fail
    refine (step_no b v4 x n _ H4.out.three.row (HN.out x (List.mem_cons_self ..)) HX.out H4.out).mono ?_
    rintro e w5 ⟨rfl, q5, h5⟩
    have hc5 : w5.cell? ⟨w.heap.size, 0, none⟩ = some (.string (strOf x)) := wds_cells (h5.eq (by ac_rfl : _ = wds (.slice (some ⟨w.heap.size, 0, none⟩) 1 1) [x] * (inum v4 n * (lay w0 * (kst b bg told * (gld bg g * R)))))) 0 x rfl
    have H5 := Lib.hid h5; have Q5 := Lib.hid (Q4.out.trans q5)
    clear h5 q5 hc4
    go_wp2_with fail
    refine (ask_sl b bg told g v4 x n _ H5.out HG.out (by omega) HA.out).mono ?_
    rintro e w6 ⟨rfl, q6, h6⟩
    have H6 := Lib.hid h6; have Q6 := Lib.hid (Q5.out.trans q6)
    clear h6 q6
    go_wp2
    first | go_end0 | ((try simp only [Exit.inBlock, Exit.then]); refine bodyPost_ret (results_none rfl _ _ _) rfl ?_)
    exact ⟨rfl, Q6.out, (H6.out.eq (by ac_rfl : _ = inum v4 n * (wds (.slice (some ⟨w.heap.size, 0, none⟩) 1 1) [x] * (kst b bg (told ++ (tell g (askReq x n)).2) * (gld bg (tell g (askReq x n)).1 * (lay w0 * R)))))).right.right⟩
  · have hN2 : 2 ≤ N := by simp at hcap; omega
    have HN1 := Lib.hid hN1
    clear hN1
    go_enter Tryz.func15, Tryz.ntmps15
    go_wp2_with fail
    refine HS.out.mono ?_
    rintro e w1 ⟨rfl, rfl⟩
    go_wp2_with fail
    refine HD.out.mono ?_
    rintro e w2 ⟨rfl, q2, h2⟩
    have Q2 := Lib.hid (((Quiet.refl w).alloc (.cells (svls (pieces 32 s)).toArray 9)).trans q2)
    have H2 := Lib.hid (h2.eq (by ac_rfl : _ = kst b bg told * (gld bg g * (wds (.slice (some ⟨w.heap.size, 0, none⟩) (r.length + 1) N) (x :: r) * (lay w0 * R)))))
    have hcx : w2.cell? ⟨w.heap.size, 0, none⟩ = some (.string (strOf x)) := wds_cells h2 0 x rfl
    clear h2 q2
    have hn0 : ¬ ((r.length : Int) + 1) = 0 := by omega
    have hn1 : decide (((r.length : Int) + 1) = 0) = false := by simpa using hn0
    simp only [List.length_cons, Int.natCast_add, Int.cast_ofNat_Int] at *
    go_wp2_with fail
    refine (node_no b bg told g _ (x :: r) _ H2.out HG.out (by simp) (by have := HWL.out; simp only [List.length_cons, List.length_nil] at this ⊢; omega) (fun y hy => by have := HZ.out y hy; omega) HN.out HQ.out (by omega)).mono ?_
    rintro e w3 ⟨rfl, q3, h3⟩
    have H3 := Lib.hid h3; have Q3 := Lib.hid (Q2.out.trans q3)
    have hcy : w3.cell? ⟨w.heap.size, 0, none⟩ = some (.string (strOf x)) := wds_cells h3.three 0 x rfl
    have hrow := wds_rest h3.three rfl
    simp only [if_neg HN1.out] at hrow
    have HRR := Lib.hid hrow
    clear h3 q3 hcx hrow
    go_wp2_with fail
    refine (numbers_sl _ r n _ (H3.out.eq (by ac_rfl : _ = lay w0 * (kst b bg told * (gld bg g * (wds (.slice (some ⟨w.heap.size, 0, none⟩) (r.length + 1) N) (x :: r) * R))))) HRR.out (by have := HWL.out; (try simp only [List.length_cons, List.length_nil] at this ⊢); omega) (fun y hy => by have := HZ.out y (List.mem_cons_of_mem _ hy); omega) HM.out).mono ?_
    rintro e w4 ⟨v4, rfl, q4, h4⟩
    replace h4 : Holds w4 (inum v4 n * (lay w0 * (kst b bg told * (gld bg g * (wds (.slice (some ⟨w.heap.size, 0, none⟩) (r.length + 1) N) (x :: r) * R))))) := h4
    have hc4 : w4.cell? ⟨w.heap.size, 0, none⟩ = some (.string (strOf x)) := wds_cells (h4.eq (by ac_rfl : _ = wds (.slice (some ⟨w.heap.size, 0, none⟩) (r.length + 1) N) (x :: r) * (inum v4 n * (lay w0 * (kst b bg told * (gld bg g * R)))))) 0 x rfl
    have H4 := Lib.hid (h4.eq (by ac_rfl : _ = kst b bg told * (gld bg g * (inum v4 n * (lay w0 * (wds (.slice (some ⟨w.heap.size, 0, none⟩) (r.length + 1) N) (x :: r) * R)))))); have Q4 := Lib.hid (Q3.out.trans q4)
    clear h4 q4 hcy
    go_wp2_with fail
    refine (step_no b v4 x n _ H4.out.three.row (HN.out x (List.mem_cons_self ..)) HX.out H4.out).mono ?_
    rintro e w5 ⟨rfl, q5, h5⟩
    have hc5 : w5.cell? ⟨w.heap.size, 0, none⟩ = some (.string (strOf x)) := wds_cells (h5.eq (by ac_rfl : _ = wds (.slice (some ⟨w.heap.size, 0, none⟩) (r.length + 1) N) (x :: r) * (inum v4 n * (lay w0 * (kst b bg told * (gld bg g * R)))))) 0 x rfl
    have H5 := Lib.hid h5; have Q5 := Lib.hid (Q4.out.trans q5)
    clear h5 q5 hc4
    go_wp2_with fail
    refine (ask_sl b bg told g v4 x n _ H5.out HG.out (by omega) HA.out).mono ?_
    rintro e w6 ⟨rfl, q6, h6⟩
    have H6 := Lib.hid h6; have Q6 := Lib.hid (Q5.out.trans q6)
    clear h6 q6
    go_wp2
    first | go_end0 | ((try simp only [Exit.inBlock, Exit.then]); refine bodyPost_ret (results_none rfl _ _ _) rfl ?_)
    exact ⟨rfl, Q6.out, (H6.out.eq (by ac_rfl : _ = inum v4 n * (wds (.slice (some ⟨w.heap.size, 0, none⟩) (r.length + 1) N) (x :: r) * (kst b bg (told ++ (tell g (askReq x n)).2) * (gld bg (tell g (askReq x n)).1 * (lay w0 * R)))))).right.right⟩
set_option maxHeartbeats 4000000 in
theorem line_what (b bg : Nat) (told : List UInt8) (g : Gld) (s : List UInt8) (x : List UInt8) (r : List (List UInt8)) (hw : words s = x :: r) (hq : nodeReq (x :: r) = none) (n : List Int) (hm : numsOf r = some n) (hx : stepReq x n = none) (ha : askReq x n = .what) (w : World) {w0 : World} {R : HP} (h : Holds w (kst b bg told * (gld bg g * (lay w0 * R)))) (hg : g.Good) (hs : s.length ≤ 9000) (ht : told.length ≤ 200000000) :
    Calls Tryz.prog 15 #[.pointer (some ⟨b, 0, none⟩), .string (strOf s)] w fun e w' => e = .returned (.tuple #[]) ∧ Quiet w w' ∧ Holds w' (kst b bg (told ++ line tWhat) * (gld bg g * (lay w0 * R))) := by
  have hsp := split_sl s w (lay_laid h.three) (by omega)
  have hpl := (pieces_len 32 s).1
  have hwl := words_len s
  have hwz := words_size s
  have hwn := words_ne s
  have hd := delete_sl (pieces 32 s) w.heap.size _ (by omega) (h.boxB (ty := 9) (cs := svls (pieces 32 s)) rfl)
  rw [words_eq, hw] at hd
  rw [hw] at hwl hwz hwn
  have hcap : (x :: r).length ≤ (pieces 32 s).length := by
    have := List.length_filter_le (fun x => !decide (x = [])) (pieces 32 s)
    rw [words_eq, hw] at this
    simpa using this
  obtain ⟨N, hN⟩ : ∃ N, (pieces 32 s).length = N := ⟨_, rfl⟩
  rw [hN] at hsp hd hcap hpl
  have HS := Lib.hid hsp; have HD := Lib.hid hd; have HG := Lib.hid hg; have HZ := Lib.hid hwz; have HN := Lib.hid hwn; have HWL := Lib.hid hwl
  clear h hsp hd hg hN hwz hwn hwl hw
  have HQ := Lib.hid hq; have HM := Lib.hid hm; have HX := Lib.hid hx; have HA := Lib.hid ha; clear hq hm hx ha
  by_cases hN1 : N = 1
  · subst hN1
    obtain rfl : r = [] := List.length_eq_zero_iff.1 (by have := hcap; simp only [List.length_cons] at this; omega)
    go_enter Tryz.func15, Tryz.ntmps15
    go_wp2_with fail
    refine HS.out.mono ?_
    rintro e w1 ⟨rfl, rfl⟩
    go_wp2_with fail
    refine HD.out.mono ?_
    rintro e w2 ⟨rfl, q2, h2⟩
    have Q2 := Lib.hid (((Quiet.refl w).alloc (.cells (svls (pieces 32 s)).toArray 9)).trans q2)
    have H2 := Lib.hid (h2.eq (by ac_rfl : _ = kst b bg told * (gld bg g * (wds (.slice (some ⟨w.heap.size, 0, none⟩) 1 1) [x] * (lay w0 * R)))))
    have hcx : w2.cell? ⟨w.heap.size, 0, none⟩ = some (.string (strOf x)) := wds_cells h2 0 x rfl
    clear h2 q2
    simp only [List.length_cons, List.length_nil, Nat.zero_add] at *
    go_wp2_with fail
    refine (node_no b bg told g _ [x] _ H2.out HG.out (by simp) (by have := HWL.out; simp only [List.length_cons, List.length_nil] at this ⊢; omega) (fun y hy => by have := HZ.out y hy; omega) HN.out HQ.out (by omega)).mono ?_
    rintro e w3 ⟨rfl, q3, h3⟩
    have H3 := Lib.hid h3; have Q3 := Lib.hid (Q2.out.trans q3)
    have hcy : w3.cell? ⟨w.heap.size, 0, none⟩ = some (.string (strOf x)) := wds_cells h3.three 0 x rfl
    have hrow := wds_rest h3.three rfl
    simp only [if_true, Nat.sub_self] at hrow
    have HRR := Lib.hid hrow
    clear h3 q3 hcx hrow
    go_wp2_with fail
    refine (numbers_sl _ [] n _ (H3.out.eq (by ac_rfl : _ = lay w0 * (kst b bg told * (gld bg g * (wds (.slice (some ⟨w.heap.size, 0, none⟩) 1 1) [x] * R))))) HRR.out (by have := HWL.out; (try simp only [List.length_cons, List.length_nil] at this ⊢); omega) (fun y hy => by have := HZ.out y (List.mem_cons_of_mem _ hy); omega) HM.out).mono ?_
    rintro e w4 ⟨v4, rfl, q4, h4⟩
    replace h4 : Holds w4 (inum v4 n * (lay w0 * (kst b bg told * (gld bg g * (wds (.slice (some ⟨w.heap.size, 0, none⟩) 1 1) [x] * R))))) := h4
    have hc4 : w4.cell? ⟨w.heap.size, 0, none⟩ = some (.string (strOf x)) := wds_cells (h4.eq (by ac_rfl : _ = wds (.slice (some ⟨w.heap.size, 0, none⟩) 1 1) [x] * (inum v4 n * (lay w0 * (kst b bg told * (gld bg g * R)))))) 0 x rfl
    have H4 := Lib.hid (h4.eq (by ac_rfl : _ = kst b bg told * (gld bg g * (inum v4 n * (lay w0 * (wds (.slice (some ⟨w.heap.size, 0, none⟩) 1 1) [x] * R)))))); have Q4 := Lib.hid (Q3.out.trans q4)
    clear h4 q4 hcy
    go_wp2_with fail
    refine (step_no b v4 x n _ H4.out.three.row (HN.out x (List.mem_cons_self ..)) HX.out H4.out).mono ?_
    rintro e w5 ⟨rfl, q5, h5⟩
    have hc5 : w5.cell? ⟨w.heap.size, 0, none⟩ = some (.string (strOf x)) := wds_cells (h5.eq (by ac_rfl : _ = wds (.slice (some ⟨w.heap.size, 0, none⟩) 1 1) [x] * (inum v4 n * (lay w0 * (kst b bg told * (gld bg g * R)))))) 0 x rfl
    have H5 := Lib.hid h5; have Q5 := Lib.hid (Q4.out.trans q5)
    clear h5 q5 hc4
    go_wp2_with fail
    refine (ask_no b v4 x n _ H5.out.three.row HA.out H5.out).mono ?_
    rintro e w6 ⟨rfl, q6, h6⟩
    have H6 := Lib.hid h6; have Q6 := Lib.hid (Q5.out.trans q6)
    clear h6 q6
    go_wp2_with (go_at_call 28; refine (say_sl b bg told _ [tWhat] _ (H6.out.alloc (.cells (svls [tWhat]).toArray 9)) (svls_row rfl (by simp) _ rfl _) (by simp) (by simp) (by omega) what_len).mono ?_; rintro e w9 ⟨rfl, q9, h9⟩)
    rw [join_one'] at h9
    first | go_end0 | ((try simp only [Exit.inBlock, Exit.then]); refine bodyPost_ret (results_none rfl _ _ _) rfl ?_)
    exact ⟨rfl, (Q6.out.alloc _).trans q9, (h9.eq (by ac_rfl : _ = inum v4 n * (wds (.slice (some ⟨w.heap.size, 0, none⟩) 1 1) [x] * (kst b bg (told ++ line tWhat) * (gld bg g * (lay w0 * R)))))).right.right⟩
  · have hN2 : 2 ≤ N := by simp at hcap; omega
    have HN1 := Lib.hid hN1
    clear hN1
    go_enter Tryz.func15, Tryz.ntmps15
    go_wp2_with fail
    refine HS.out.mono ?_
    rintro e w1 ⟨rfl, rfl⟩
    go_wp2_with fail
    refine HD.out.mono ?_
    rintro e w2 ⟨rfl, q2, h2⟩
    have Q2 := Lib.hid (((Quiet.refl w).alloc (.cells (svls (pieces 32 s)).toArray 9)).trans q2)
    have H2 := Lib.hid (h2.eq (by ac_rfl : _ = kst b bg told * (gld bg g * (wds (.slice (some ⟨w.heap.size, 0, none⟩) (r.length + 1) N) (x :: r) * (lay w0 * R)))))
    have hcx : w2.cell? ⟨w.heap.size, 0, none⟩ = some (.string (strOf x)) := wds_cells h2 0 x rfl
    clear h2 q2
    have hn0 : ¬ ((r.length : Int) + 1) = 0 := by omega
    have hn1 : decide (((r.length : Int) + 1) = 0) = false := by simpa using hn0
    simp only [List.length_cons, Int.natCast_add, Int.cast_ofNat_Int] at *
    go_wp2_with fail
    refine (node_no b bg told g _ (x :: r) _ H2.out HG.out (by simp) (by have := HWL.out; simp only [List.length_cons, List.length_nil] at this ⊢; omega) (fun y hy => by have := HZ.out y hy; omega) HN.out HQ.out (by omega)).mono ?_
    rintro e w3 ⟨rfl, q3, h3⟩
    have H3 := Lib.hid h3; have Q3 := Lib.hid (Q2.out.trans q3)
    have hcy : w3.cell? ⟨w.heap.size, 0, none⟩ = some (.string (strOf x)) := wds_cells h3.three 0 x rfl
    have hrow := wds_rest h3.three rfl
    simp only [if_neg HN1.out] at hrow
    have HRR := Lib.hid hrow
    clear h3 q3 hcx hrow
    go_wp2_with fail
    refine (numbers_sl _ r n _ (H3.out.eq (by ac_rfl : _ = lay w0 * (kst b bg told * (gld bg g * (wds (.slice (some ⟨w.heap.size, 0, none⟩) (r.length + 1) N) (x :: r) * R))))) HRR.out (by have := HWL.out; (try simp only [List.length_cons, List.length_nil] at this ⊢); omega) (fun y hy => by have := HZ.out y (List.mem_cons_of_mem _ hy); omega) HM.out).mono ?_
    rintro e w4 ⟨v4, rfl, q4, h4⟩
    replace h4 : Holds w4 (inum v4 n * (lay w0 * (kst b bg told * (gld bg g * (wds (.slice (some ⟨w.heap.size, 0, none⟩) (r.length + 1) N) (x :: r) * R))))) := h4
    have hc4 : w4.cell? ⟨w.heap.size, 0, none⟩ = some (.string (strOf x)) := wds_cells (h4.eq (by ac_rfl : _ = wds (.slice (some ⟨w.heap.size, 0, none⟩) (r.length + 1) N) (x :: r) * (inum v4 n * (lay w0 * (kst b bg told * (gld bg g * R)))))) 0 x rfl
    have H4 := Lib.hid (h4.eq (by ac_rfl : _ = kst b bg told * (gld bg g * (inum v4 n * (lay w0 * (wds (.slice (some ⟨w.heap.size, 0, none⟩) (r.length + 1) N) (x :: r) * R)))))); have Q4 := Lib.hid (Q3.out.trans q4)
    clear h4 q4 hcy
    go_wp2_with fail
    refine (step_no b v4 x n _ H4.out.three.row (HN.out x (List.mem_cons_self ..)) HX.out H4.out).mono ?_
    rintro e w5 ⟨rfl, q5, h5⟩
    have hc5 : w5.cell? ⟨w.heap.size, 0, none⟩ = some (.string (strOf x)) := wds_cells (h5.eq (by ac_rfl : _ = wds (.slice (some ⟨w.heap.size, 0, none⟩) (r.length + 1) N) (x :: r) * (inum v4 n * (lay w0 * (kst b bg told * (gld bg g * R)))))) 0 x rfl
    have H5 := Lib.hid h5; have Q5 := Lib.hid (Q4.out.trans q5)
    clear h5 q5 hc4
    go_wp2_with fail
    refine (ask_no b v4 x n _ H5.out.three.row HA.out H5.out).mono ?_
    rintro e w6 ⟨rfl, q6, h6⟩
    have H6 := Lib.hid h6; have Q6 := Lib.hid (Q5.out.trans q6)
    clear h6 q6
    go_wp2_with (go_at_call 28; refine (say_sl b bg told _ [tWhat] _ (H6.out.alloc (.cells (svls [tWhat]).toArray 9)) (svls_row rfl (by simp) _ rfl _) (by simp) (by simp) (by omega) what_len).mono ?_; rintro e w9 ⟨rfl, q9, h9⟩)
    rw [join_one'] at h9
    first | go_end0 | ((try simp only [Exit.inBlock, Exit.then]); refine bodyPost_ret (results_none rfl _ _ _) rfl ?_)
    exact ⟨rfl, (Q6.out.alloc _).trans q9, (h9.eq (by ac_rfl : _ = inum v4 n * (wds (.slice (some ⟨w.heap.size, 0, none⟩) (r.length + 1) N) (x :: r) * (kst b bg (told ++ line tWhat) * (gld bg g * (lay w0 * R)))))).right.right⟩
theorem line_sl (b bg : Nat) (told : List UInt8) (g : Gld) (s : List UInt8) (w : World) {w0 : World} {R : HP} (h : Holds w (kst b bg told * (gld bg g * (lay w0 * R)))) (hg : g.Good) (hs : s.length ≤ 9000) (ht : told.length ≤ 200000000) :
    Calls Tryz.prog 15 #[.pointer (some ⟨b, 0, none⟩), .string (strOf s)] w fun e w' => e = .returned (.tuple #[]) ∧ Quiet w w' ∧ Holds w' (kst b bg (told ++ (tellL g s).2) * (gld bg (tellL g s).1 * (lay w0 * R))) := by
  unfold tellL
  cases hw : words s with
  | nil => exact line_none b bg told g s hw w h hg hs ht
  | cons x r =>
    cases hq : nodeReq (x :: r) with
    | some y =>
      rw [show reqOf (x :: r) = .step y.1 y.2 by simp only [reqOf, hq]]
      exact line_node b bg told g s x r hw y.1 y.2 hq w h hg hs ht
    | none =>
      cases hm : numsOf r with
      | none =>
        rw [show reqOf (x :: r) = .what by simp only [reqOf, hq, hm]]
        exact line_bad b bg told g s x r hw hq hm w h hg hs ht
      | some n =>
        cases hx : stepReq x n with
        | some X =>
          rw [show reqOf (x :: r) = .step X false by simp only [reqOf, hq, hm, hx]]
          exact line_step b bg told g s x r hw hq n hm X hx w h hg hs ht
        | none =>
          rw [show reqOf (x :: r) = askReq x n by simp only [reqOf, hq, hm, hx]]
          by_cases ha : askReq x n = .what
          · rw [ha]
            exact line_what b bg told g s x r hw hq n hm hx ha w h hg hs ht
          · exact line_ask b bg told g s x r hw hq n hm hx ha w h hg hs ht
end Go.Proofs.YtfihmpkkpgmdhaaGreatDoor

/-
  desk.Do: lines, one behind the other.
-/
namespace Go.Proofs.YtfihmpkkpgmdhaaGreatDoor
set_option maxRecDepth 100000
set_option linter.unusedSimpArgs false
set_option linter.unusedVariables false
set_option linter.unnecessarySimpa false
open Go.RowKit
theorem contains_sl (s : List UInt8) (w : World) : Calls Tryz.prog 13 #[.string (strOf s), .string ⟨#[10]⟩] w fun e w' => e = .returned (.bool (s.contains 10)) ∧ w' = w := by
  rw [Lib.contains_iff_indexByte]
  have := Tryz.strings_Contains_one (strOf s) 10 w
  rw [strOf_data] at this
  exact this
/-- Where the first line stands that has a line's end in it. -/
def brk : List (List UInt8) → Option Nat
  | [] => none
  | s :: l => if s.contains 10 then some 0 else (brk l).map (· + 1)
theorem brk_none : ∀ {l : List (List UInt8)}, brk l = none → ∀ s ∈ l, s.contains 10 = false
  | [], _, s, hs => by cases hs
  | a :: l, h, s, hs => by
    unfold brk at h
    split at h
    · cases h
    · rename_i ha
      rcases List.mem_cons.1 hs with rfl | hs
      · simpa using ha
      · exact brk_none (by simpa using h) s hs
theorem brk_some : ∀ {l : List (List UInt8)} {i : Nat}, brk l = some i → ∃ s, l[i]? = some s ∧ s.contains 10 = true ∧ ∀ j x, j < i → l[j]? = some x → x.contains 10 = false
  | [], _, h => by cases h
  | a :: l, i, h => by
    unfold brk at h
    split at h
    · rename_i ha
      injection h with h
      subst h
      exact ⟨a, rfl, ha, fun j x hj => absurd hj (Nat.not_lt_zero _)⟩
    · rename_i ha
      obtain ⟨k, hk, rfl⟩ := Option.map_eq_some_iff.1 h
      obtain ⟨s, h1, h2, h3⟩ := brk_some hk
      refine ⟨s, by simpa using h1, h2, fun j x hj hx => ?_⟩
      cases j with
      | zero => simp at hx; subst hx; simpa using ha
      | succ j => exact h3 j x (by omega) (by simpa using hx)
theorem results_mix2 {P : Program} {fn : Func} {tmps : Array Value} {w : World} {a b : Nat} {t : TypeId} {ad : Addr} {v x : Value} (hr : fn.results = #[.tmp b, .cell a t]) (ha : tmps.getD a undef = .pointer (some ad)) (hb : tmps.getD b undef = x) (hl : (loadVar t ad).run P w = .ok v w) : (results fn tmps).run P w = .ok (.tuple #[x, v]) w := by
  have h1 : (asAddr (.pointer (some ad))).run P w = .ok ad w := rfl
  have ha' : tmps[a]?.getD undef = .pointer (some ad) := by simpa using ha
  have hb' : tmps[b]?.getD undef = x := by simpa using hb
  unfold results
  rw [hr]
  simp [Sem.run_bind, ha', hb', h1, hl]
theorem tells_take (g : Gld) (l : List (List UInt8)) (k : Nat) (s : List UInt8) (h : l[k]? = some s) : tells g (l.take (k + 1)) = ((tellL (tells g (l.take k)).1 s).1, (tells g (l.take k)).2 ++ (tellL (tells g (l.take k)).1 s).2) := by
  rw [List.take_add_one, h, ← tells_snoc]
  rfl
set_option maxHeartbeats 4000000 in
theorem do_ok (b bg : Nat) (g : Gld) (v : Value) (l : List (List UInt8)) (w : World) {w0 : World} {R : HP} (h : Holds w (kbl b bg * (gld bg g * (lay w0 * R)))) (hg : g.Good) (hv : ∀ W, Holds W (lay w0 * R) → RowAt W v l.length (svls l)) (hn : l.length ≤ 150) (hz : ∀ s ∈ l, s.length ≤ 9000) (hb : brk l = none) :
    Calls Tryz.prog 9 #[.pointer (some ⟨b, 0, none⟩), v] w fun e w' => e = .returned (.tuple #[.string (strOf (tells g l).2), .agg #[.int .i64 0, .int .i64 0]]) ∧ Quiet w w' ∧ Holds w' (kbl b bg * (gld bg (tells g l).1 * (lay w0 * R))) := by
  obtain ⟨a, c, rfl, c1, c2⟩ := (hv w h.right.right).shape
  obtain ⟨q0, hq0⟩ : ∃ q, w.heap.size = q := ⟨_, rfl⟩
  obtain ⟨wa, hwa, H0, Q0⟩ : ∃ wa, w.alloc (.cells #[.int .i64 0, .int .i64 0] 31) = wa ∧ Hid (Holds wa (bl q0 31 [.int .i64 0, .int .i64 0] * (kbl b bg * (gld bg g * (lay w0 * R))))) ∧ Hid (Quiet w wa) :=
    ⟨_, rfl, Lib.hid (h.boxB (ty := 31) (cs := [.int .i64 0, .int .i64 0]) hq0), Lib.hid ((Quiet.refl w).alloc _)⟩
  have HG := Lib.hid hg; have HV := Lib.hid hv; have HZ := Lib.hid hz; have HB := Lib.hid (brk_none hb)
  clear h hg hv hz hb
  have hn1 : ¬ (150 : Int) < (l.length : Int) := by omega
  go_enter Tryz.func9, Tryz.ntmps9
  go_wp2_with fail
  go_loopw [16] (fun i wr => ∃ k : Nat, k ≤ l.length ∧ i = .int .i64 k ∧ wr = wa) (fun i _ => l.length - (intOf i).toNat)
  case atStart => exact ⟨0, by omega, rfl, rfl⟩
  case round =>
    obtain ⟨k, hk, rfl, rfl⟩ := hrel
    by_cases hlt : k < l.length
    · obtain ⟨s, hs⟩ : ∃ s, l[k]? = some s := ⟨_, List.getElem?_eq_getElem hlt⟩
      obtain ⟨gl, ol, cl, e, -, -, hc⟩ := (HV.out _ H0.out.right.right.right).get (by omega)
      simp only [Value.slice.injEq] at e
      obtain ⟨rfl, -, rfl⟩ := e
      have y0 := hc k _ (svls_get hs)
      have hno := HB.out s (List.mem_of_getElem? hs)
      clear hc hs
      go_wp2_with (go_at_call 13; refine (contains_sl s _).mono ?_; rw [hno]; rintro e w1 ⟨rfl, rfl⟩)
      go_roundw
      case rel => exact ⟨k + 1, by omega, by go_num, trivial⟩
      case measure => simp [intOf]; omega
    · obtain rfl : k = l.length := by omega
      go_wp2_with fail
      refine (reset_sl b bg _ H0.out.two).mono ?_
      rintro e w2 ⟨rfl, q2, h2⟩
      have H2 := Lib.hid h2; have Q2 := Lib.hid (Q0.out.trans q2)
      clear h2 q2
      go_wp2_with fail
      go_loopw [32] (fun i wr => ∃ k : Nat, k ≤ l.length ∧ i = .int .i64 k ∧ Holds wr (kst b bg (tells g (l.take k)).2 * (gld bg (tells g (l.take k)).1 * (lay w0 * (bl q0 31 [.int .i64 0, .int .i64 0] * R)))) ∧ Quiet w wr) (fun i _ => l.length - (intOf i).toNat)
      case atStart => exact ⟨0, by omega, rfl, H2.out.eq (by simp only [List.take_zero, tells]; ac_rfl), Q2.out⟩
      case round =>
        obtain ⟨k, hk, rfl, hh, hq⟩ := hrel
        have HH := Lib.hid hh; have HQ := Lib.hid hq
        have hrow := HV.out _ (hh.eq (by ac_rfl : _ = kst b bg (tells g (l.take k)).2 * (gld bg (tells g (l.take k)).1 * (bl q0 31 [.int .i64 0, .int .i64 0] * (lay w0 * R))))).right.right.right
        have HR := Lib.hid hrow
        clear hh hq hrow
        obtain ⟨wo, rfl⟩ : ∃ wo : World, wo = wr := ⟨_, rfl⟩
        by_cases hlt : k < l.length
        · obtain ⟨s, hs⟩ : ∃ s, l[k]? = some s := ⟨_, List.getElem?_eq_getElem hlt⟩
          obtain ⟨gl, ol, cl, e, -, -, hc⟩ := HR.out.get (by omega)
          simp only [Value.slice.injEq] at e
          obtain ⟨rfl, -, rfl⟩ := e
          have y0 := hc k _ (svls_get hs)
          have hzs := HZ.out s (List.mem_of_getElem? hs)
          have hst := tells_take g l k s hs
          have hgk := tells_good (l.take k) HG.out
          have hlk := tells_len (l.take k) HG.out
          rw [List.length_take] at hlk
          have HST := Lib.hid hst; have HGK := Lib.hid hgk
          clear hc hs hst hgk
          go_wp2_with (go_at_call 15; refine (line_sl b bg _ _ s _ HH.out HGK.out hzs (by omega)).mono ?_; rintro e w3 ⟨rfl, q3, h3⟩; have H3 := Lib.hid h3; have Q3 := Lib.hid (HQ.out.trans q3); clear h3 q3)
          go_roundw
          case rel => exact ⟨k + 1, by omega, by go_num, by rw [HST.out]; exact H3.out, Q3.out⟩
          case measure => simp [intOf]; omega
        · obtain rfl : k = l.length := by omega
          have HH2 := Lib.hid (show Holds wo (kst b bg (tells g l).2 * (gld bg (tells g l).1 * (lay w0 * (bl q0 31 [.int .i64 0, .int .i64 0] * R)))) by have := HH.out; rwa [List.take_length] at this)
          go_wp2_with fail
          refine (string_sl b bg _ _ HH2.out).mono ?_
          rintro e w4 ⟨rfl, q4, h4⟩
          have H4 := Lib.hid (h4.eq (by ac_rfl : _ = bl q0 31 [.int .i64 0, .int .i64 0] * (kbl b bg * (gld bg (tells g l).1 * (lay w0 * R))))); have Q4 := Lib.hid (HQ.out.trans q4)
          clear h4 q4
          go_wp2_with (refine wpList_store_whole rfl 31 _ _ rfl q0 [.int .i64 0, .int .i64 0] rfl rfl H4.out.bl rfl (by kernel_rfl) (by simp [Ones, Value.oneCell']) ?_; intro w5 h1' h2' h3'; have H5 := Lib.hid (H4.out.grown h2' h1'); have Q5 := Lib.hid (Q4.out.trans (Quiet.grown h2')); clear h1' h2' h3')
          have hl := run_load_part (P := Tryz.prog) (off := 0) (ty := 31) (vs := [.int .i64 0, .int .i64 0]) H5.out.bl rfl Tryz.underlying31 rfl (by kernel_rfl)
          exact bodyPost_ret (results_mix2 rfl rfl rfl hl) rfl ⟨rfl, Q5.out, H5.out.right⟩
set_option maxHeartbeats 4000000 in
theorem do_many (b : Nat) (v : Value) (n : Nat) (w : World) {R : HP} (h : Holds w R) (hv : ∃ a c, v = .slice a n c ∧ n ≤ c ∧ c ≤ 9223372036854775807) (hn : 150 < n) :
    Calls Tryz.prog 9 #[.pointer (some ⟨b, 0, none⟩), v] w fun e w' => e = .returned (.tuple #[.string (strOf []), .agg #[.int .i64 12, .int .i64 (-1)]]) ∧ Quiet w w' ∧ Holds w' R := by
  obtain ⟨a, c, rfl, c1, c2⟩ := hv
  obtain ⟨q0, hq0⟩ : ∃ q, w.heap.size = q := ⟨_, rfl⟩
  obtain ⟨wa, hwa, H0, Q0⟩ : ∃ wa, w.alloc (.cells #[.int .i64 0, .int .i64 0] 31) = wa ∧ Hid (Holds wa (bl q0 31 [.int .i64 0, .int .i64 0] * R)) ∧ Hid (Quiet w wa) :=
    ⟨_, rfl, Lib.hid (h.boxB (ty := 31) (cs := [.int .i64 0, .int .i64 0]) hq0), Lib.hid ((Quiet.refl w).alloc _)⟩
  clear h
  have hn1 : (150 : Int) < (n : Int) := by omega
  go_enter Tryz.func9, Tryz.ntmps9
  go_wp2_with (refine wpList_store_whole rfl 31 _ _ rfl q0 [.int .i64 12, .int .i64 (-1)] rfl rfl H0.out.bl rfl (by kernel_rfl) (by simp [Ones, Value.oneCell']) ?_; intro w5 h1' h2' h3'; have H5 := Lib.hid (H0.out.grown h2' h1'); have Q5 := Lib.hid (Q0.out.trans (Quiet.grown h2')); clear h1' h2' h3')
  have hl := run_load_part (P := Tryz.prog) (off := 0) (ty := 31) (vs := [.int .i64 12, .int .i64 (-1)]) H5.out.bl rfl Tryz.underlying31 rfl (by kernel_rfl)
  exact bodyPost_ret (results_mix2 rfl rfl rfl hl) rfl ⟨rfl, Q5.out, H5.out.right⟩
set_option maxHeartbeats 4000000 in
theorem do_brk (b : Nat) (v : Value) (l : List (List UInt8)) (i : Nat) (w : World) {R : HP} (h : Holds w R) (hv : RowAt w v l.length (svls l)) (hn : l.length ≤ 150) (hb : brk l = some i) :
    Calls Tryz.prog 9 #[.pointer (some ⟨b, 0, none⟩), v] w fun e w' => e = .returned (.tuple #[.string (strOf []), .agg #[.int .i64 13, .int .i64 i]]) ∧ Quiet w w' ∧ Holds w' R := by
  obtain ⟨t, hti, htc, htj⟩ := brk_some hb
  have hil : i < l.length := (List.getElem?_eq_some_iff.1 hti).1
  obtain ⟨gl, ol, cl, rfl, c1, c2, hc⟩ := hv.get (by omega)
  obtain ⟨q0, hq0⟩ : ∃ q, w.heap.size = q := ⟨_, rfl⟩
  have hc' : ∀ j u, (svls l)[j]? = some u → (w.alloc (.cells #[.int .i64 0, .int .i64 0] 31)).cell? ⟨gl, ol + j, none⟩ = some u := fun j u hj => Lib.cell?_alloc_some _ (hc j u hj)
  obtain ⟨wa, hwa, H0, Q0, HC⟩ : ∃ wa, w.alloc (.cells #[.int .i64 0, .int .i64 0] 31) = wa ∧ Hid (Holds wa (bl q0 31 [.int .i64 0, .int .i64 0] * R)) ∧ Hid (Quiet w wa) ∧ Hid (∀ j u, (svls l)[j]? = some u → wa.cell? ⟨gl, ol + j, none⟩ = some u) :=
    ⟨_, rfl, Lib.hid (h.boxB (ty := 31) (cs := [.int .i64 0, .int .i64 0]) hq0), Lib.hid ((Quiet.refl w).alloc _), Lib.hid hc'⟩
  have HT := Lib.hid hti; have HTC := Lib.hid htc; have HTJ := Lib.hid htj
  clear h hv hb hti htc htj hc hc'
  have hn1 : ¬ (150 : Int) < (l.length : Int) := by omega
  go_enter Tryz.func9, Tryz.ntmps9
  go_wp2_with fail
  go_loopw [16] (fun x wr => ∃ k : Nat, k ≤ i ∧ x = .int .i64 k ∧ wr = wa) (fun x _ => l.length - (intOf x).toNat)
  case atStart => exact ⟨0, by omega, rfl, rfl⟩
  case round =>
    obtain ⟨k, hk, rfl, rfl⟩ := hrel
    obtain ⟨s, hs⟩ : ∃ s, l[k]? = some s := ⟨_, List.getElem?_eq_getElem (by omega)⟩
    have hlt : k < l.length := by omega
    have y0 := HC.out k _ (svls_get hs)
    by_cases hki : k < i
    · have hno := HTJ.out k s hki hs
      clear hs
      go_wp2_with (go_at_call 13; refine (contains_sl s _).mono ?_; rw [hno]; rintro e w1 ⟨rfl, rfl⟩)
      go_roundw
      case rel => exact ⟨k + 1, by omega, by go_num, trivial⟩
      case measure => simp [intOf]; omega
    · obtain rfl : k = i := by omega
      have hst : t = s := Option.some.inj (HT.out.symm.trans hs)
      have hyes : s.contains 10 = true := hst ▸ HTC.out
      clear hs hst
      go_wp2_with (first | (go_at_call 13; refine (contains_sl s _).mono ?_; rw [hyes]; rintro e w1 ⟨rfl, rfl⟩) | (refine wpList_store_whole rfl 31 _ _ rfl q0 [.int .i64 13, .int .i64 k] rfl rfl H0.out.bl rfl (by kernel_rfl) (by simp [Ones, Value.oneCell']) ?_; intro w5 h1' h2' h3'; have H5 := Lib.hid (H0.out.grown h2' h1'); have Q5 := Lib.hid (Q0.out.trans (Quiet.grown h2')); clear h1' h2' h3'))
      have hl := run_load_part (P := Tryz.prog) (off := 0) (ty := 31) (vs := [.int .i64 13, .int .i64 k]) H5.out.bl rfl Tryz.underlying31 rfl (by kernel_rfl)
      exact bodyPost_ret (results_mix2 rfl rfl rfl hl) rfl ⟨rfl, Q5.out, H5.out.right⟩
end Go.Proofs.YtfihmpkkpgmdhaaGreatDoor

/-
  The lines of deskBegun, and what they tell.
-/
namespace Go.Proofs.YtfihmpkkpgmdhaaGreatDoor
open Go
def dbLines : List (List UInt8) := [[111, 112, 101, 110, 32, 48],
  [97, 100, 100, 32, 48, 32, 50],
  [116, 97, 107, 101, 32, 48, 32, 49, 32, 53],
  [116, 105, 99, 107, 32, 51],
  [116, 101, 97, 114, 32, 52, 32, 100, 111, 110, 101, 32, 48, 32, 50, 32, 49, 32, 49],
  [100, 111, 110, 101, 32, 48, 32, 50, 32, 49, 32, 49],
  [111, 112, 101, 110, 32, 49],
  [100, 111, 110, 101, 32, 49, 32, 50, 32, 49, 32, 49],
  [106, 111, 98, 32, 49, 32, 50],
  [108, 111, 103],
  [104, 111, 108, 100, 101, 114, 115, 32, 50],
  [100, 105, 115, 107],
  [120]]
def dbTold : List UInt8 := [111, 107, 10, 111, 107, 10, 111, 107, 32, 50, 32, 49, 10, 111, 107, 10, 111, 107, 10, 110, 111, 32, 49, 48, 10, 111, 107, 10, 111, 107, 10, 106, 111, 98, 32, 51, 32, 49, 32, 49, 32, 48, 10, 114, 101, 99, 111, 114, 100, 32, 49, 32, 49, 32, 48, 32, 50, 32, 48, 32, 48, 32, 48, 32, 106, 111, 98, 32, 49, 32, 48, 32, 48, 32, 48, 10, 114, 101, 99, 111, 114, 100, 32, 49, 32, 50, 32, 48, 32, 48, 32, 48, 32, 49, 32, 53, 32, 106, 111, 98, 32, 50, 32, 49, 32, 49, 32, 53, 10, 114, 101, 99, 111, 114, 100, 32, 50, 32, 52, 32, 51, 32, 50, 32, 49, 32, 49, 32, 48, 32, 106, 111, 98, 32, 51, 32, 49, 32, 49, 32, 48, 10, 101, 110, 100, 10, 104, 111, 108, 100, 101, 114, 115, 32, 49, 32, 49, 10, 100, 105, 115, 107, 32, 50, 32, 50, 55, 32, 51, 10, 119, 104, 97, 116, 10]
theorem begun_told : (tells Gld.zero dbLines).2 = dbTold := by decide +kernel
end Go.Proofs.YtfihmpkkpgmdhaaGreatDoor

/-
  A new desk; the desk's first lines; lines that are long.
-/
namespace Go.Proofs.YtfihmpkkpgmdhaaGreatDoor
set_option maxRecDepth 100000
set_option linter.unusedSimpArgs false
set_option linter.unusedVariables false
set_option linter.unnecessarySimpa false
open Go.RowKit
theorem knew_sl (w : World) {R : HP} (h : Holds w R) : Calls Tryz.prog 7 #[] w fun e w' => ∃ b bg : Nat, e = .returned (.pointer (some ⟨b, 0, none⟩)) ∧ Quiet w w' ∧ Holds w' (kbl b bg * (gld bg Gld.zero * R)) := by
  have H := Lib.hid h; clear h
  go_enter Tryz.func7, Tryz.ntmps7
  go_wp2_with fail
  refine (gNew_sl _ H.out).mono ?_
  rintro e w1 ⟨bg, rfl, q1, h1⟩
  have H1 := Lib.hid (show Holds w1 (gld bg Gld.zero * R) from h1); have Q1 := Lib.hid q1; clear h1 q1
  go_wp2_with (refine wpList_built rfl 46 _ rfl (kcs 0 bg false (.slice none 0 0)) (by kernel_rfl) ?_)
  go_ret
  exact ⟨_, bg, rfl, Q1.out.alloc _, kbl_close (u := false) (v := .slice none 0 0) (H1.out.boxB (ty := 46) (cs := kcs w1.heap.size bg false (.slice none 0 0)) rfl)⟩
/-- What Do answers, whatever the lines. -/
theorem kdo_sl (b bg : Nat) (g : Gld) (v : Value) (l : List (List UInt8)) (w : World) {w0 : World} {R : HP} (h : Holds w (kbl b bg * (gld bg g * (lay w0 * R)))) (hg : g.Good) (hv : ∀ W, Holds W (lay w0 * R) → RowAt W v l.length (svls l)) (hz : ∀ s ∈ l, s.length ≤ 9000) :
    Calls Tryz.prog 9 #[.pointer (some ⟨b, 0, none⟩), v] w fun e w' => ∃ (T : List UInt8) (c a : Int) (g' : Gld), e = .returned (.tuple #[.string (strOf T), .agg #[.int .i64 c, .int .i64 a]]) ∧ Quiet w w' ∧ Holds w' (kbl b bg * (gld bg g' * (lay w0 * R))) ∧ g'.Good ∧
      (l.length ≤ 150 → brk l = none → c = 0 ∧ a = 0 ∧ T = (tells g l).2 ∧ g' = (tells g l).1) ∧ (∀ i, l.length ≤ 150 → brk l = some i → c = 13 ∧ a = i ∧ T = [] ∧ g' = g) ∧ (150 < l.length → c = 12 ∧ a = -1 ∧ T = [] ∧ g' = g) := by
  by_cases hn : l.length ≤ 150
  · cases hb : brk l with
    | none =>
      refine (do_ok b bg g v l w h hg hv hn hz hb).mono ?_
      rintro e w' ⟨rfl, q, k⟩
      exact ⟨_, _, _, _, rfl, q, k, tells_good l hg, fun _ _ => ⟨rfl, rfl, rfl, rfl⟩, fun i _ e => (by cases e), fun e => absurd hn (by omega)⟩
    | some i =>
      refine (do_brk b v l i w h (hv w h.right.right) hn hb).mono ?_
      rintro e w' ⟨rfl, q, k⟩
      exact ⟨_, _, _, _, rfl, q, k, hg, fun _ e => (by cases e), fun j _ e => (by injection e with e; subst e; exact ⟨rfl, rfl, rfl, rfl⟩), fun e => absurd hn (by omega)⟩
  · obtain ⟨a, c, e0, h1, h2⟩ := (hv w h.right.right).shape
    refine (do_many b v l.length w h ⟨a, c, e0, h1, h2⟩ (by omega)).mono ?_
    rintro e w' ⟨rfl, q, k⟩
    exact ⟨_, _, _, _, rfl, q, k, hg, fun e => absurd e hn, fun i e => absurd e hn, fun _ => ⟨rfl, rfl, rfl, rfl⟩⟩
theorem bl_rowAt {W : World} {g : Nat} {l : List (List UInt8)} {A : HP} {n : Nat} (h : Holds W (bl g 9 (svls l) * A)) (hn : l.length = n) (hs : n ≤ 1000) : RowAt W (.slice (some ⟨g, 0, none⟩) n n) l.length (svls l) := by
  subst hn
  exact ⟨_, _, rfl, Nat.le_refl _, by simp only [maxLen]; omega, by simp, fun _ => ⟨_, _, rfl, fun j u hj => by rw [Nat.zero_add]; exact h.bl.cell j u hj⟩⟩
set_option maxHeartbeats 4000000 in
theorem deskBegun_any (w : World) (hl : Laid w) : Calls Tryz.prog 5 #[] w fun e w' => e = .returned (.bool true) ∧ Below w.heap.size w w' := by
  have H0 := Lib.hid (lay_start hl); clear hl
  have hb := bytes_yes dbTold
  have hT0 := begun_told
  obtain ⟨T, hT⟩ : ∃ T, strOf dbTold = T := ⟨_, rfl⟩
  rw [hT] at hb
  simp only [dbTold] at hb
  have HT := Lib.hid hT; have HT0 := Lib.hid hT0
  clear hT hT0
  go_enter Tryz.func5, Tryz.ntmps5
  go_wp2_with fail
  refine (knew_sl _ H0.out).mono ?_
  rintro e w1 ⟨b, bg, rfl, q1, h1⟩
  have H1 := Lib.hid ((h1.boxB (ty := 9) (cs := svls dbLines) rfl).eq (by ac_rfl : _ = kbl b bg * (gld bg Gld.zero * (lay w * (bl w1.heap.size 9 (svls dbLines) * HP.emp))))); have Q1 := Lib.hid q1; clear h1 q1
  go_wp2_with fail
  refine (do_ok b bg Gld.zero _ dbLines _ H1.out good_zero (fun W h => bl_rowAt h.right rfl (by decide)) (by decide) (by decide) (by decide)).mono ?_
  rw [HT0.out, HT.out]
  rintro e w2 ⟨rfl, q2, h2⟩
  obtain ⟨q0, hq0⟩ : ∃ q, w2.heap.size = q := ⟨_, rfl⟩
  have H2 := Lib.hid ((h2.right.right.left).boxB (ty := 31) (cs := [.int .i64 0, .int .i64 0]) hq0); have Q2 := Lib.hid ((Q1.out.alloc (.cells (svls dbLines).toArray 9)).trans q2)
  clear h2 q2
  go_wp2_with (refine wpList_store_whole rfl 31 _ _ rfl q0 [.int .i64 0, .int .i64 0] rfl rfl H2.out.bl rfl (by kernel_rfl) (by simp [Ones, Value.oneCell']) ?_; intro w5 h1' h2' h3'; have H5 := Lib.hid (H2.out.grown h2' h1'); have Q5 := Lib.hid ((Q2.out.alloc (.cells #[.int .i64 0, .int .i64 0] 31)).trans (Quiet.grown h2')); clear h1' h2' h3'; have c0 := H5.out.bl.cell 0 _ rfl)
  go_ret
  exact ⟨rfl, (lay_of (H5.out.swap.eq (by rfl))).left.toBelow' Q5.out⟩
theorem slow_sl (v : Value) (l : List (List UInt8)) (w : World) (hv : RowAt w v l.length (svls l)) (hn : l.length ≤ 100000) (hz : ∀ s ∈ l, s.length ≤ 140737488351232) :
    Calls Tryz.prog 6 #[v] w fun e w' => ∃ c : Bool, e = .returned (.bool c) ∧ w' = w ∧ (c = false → ∀ s ∈ l, s.length ≤ 9000) := by
  obtain ⟨a, c, rfl, c1, c2⟩ := hv.shape
  have HV := Lib.hid hv; have HZ := Lib.hid hz
  clear hv hz
  go_enter Tryz.func6, Tryz.ntmps6
  go_wp2_with fail
  go_loopw [3, 4] (fun n i wr => ∃ (k t : Nat), k ≤ l.length ∧ t ≤ 9000 ∧ n = .int .i64 t ∧ i = .int .i64 k ∧ wr = w ∧ Hid (∀ s ∈ l.take k, s.length ≤ 9000)) (fun _ i _ => l.length - (intOf i).toNat)
  case atStart => exact ⟨0, 0, by omega, by omega, rfl, rfl, rfl, Lib.hid (fun s hs => by simp at hs)⟩
  case round =>
    obtain ⟨k, t, hk, ht, rfl, rfl, rfl, HK⟩ := hrel
    by_cases hlt : k < l.length
    · obtain ⟨s, hs⟩ : ∃ s, l[k]? = some s := ⟨_, List.getElem?_eq_getElem hlt⟩
      obtain ⟨gl, ol, cl, e, -, -, hc⟩ := HV.out.get (by omega)
      simp only [Value.slice.injEq] at e
      obtain ⟨rfl, -, rfl⟩ := e
      have y0 := hc k _ (svls_get hs)
      have hzs := HZ.out s (List.mem_of_getElem? hs)
      have hss := strOf_size s
      have htk : l.take (k + 1) = l.take k ++ [s] := by rw [List.take_add_one, hs]; rfl
      have HTK := Lib.hid htk
      clear hc hs htk
      obtain ⟨S, hS⟩ : ∃ S, strOf s = S := ⟨_, rfl⟩
      rw [hS] at y0 hss
      obtain ⟨n, hn'⟩ : ∃ n, S.size = n := ⟨_, rfl⟩
      have hnz : n ≤ 140737488351232 := by omega
      have HN := Lib.hid hss; have HNN := Lib.hid hn'
      clear hss hS
      by_cases hbig : 9000 < t + n
      · have hb1 : (9000 : Int) < (t : Int) + (n : Int) := by omega
        go_wp2
        go_ret
        exact ⟨true, rfl, rfl, fun e => by cases e⟩
      · have hb1 : ¬ (9000 : Int) < (t : Int) + (n : Int) := by omega
        go_wp2
        go_roundw
        case rel => exact ⟨k + 1, t + n, by omega, by omega, by go_num, by go_num, trivial, Lib.hid (fun x hx => by
          rw [HTK.out, List.mem_append, List.mem_singleton] at hx
          rcases hx with hx | rfl
          · exact HK.out x hx
          · have := HN.out; have := HNN.out; omega)⟩
        case measure => simp [intOf]; omega
    · obtain rfl : k = l.length := by omega
      go_wp2
      go_ret
      refine ⟨false, rfl, rfl, fun _ s hs => HK.out s ?_⟩
      rw [List.take_length]
      exact hs
end Go.Proofs.YtfihmpkkpgmdhaaGreatDoor

/-
  An unsigned rest of an int, as Go reckons it.
-/
namespace Go.Proofs.YtfihmpkkpgmdhaaGreatDoor
open Go.RowKit
theorem uidx (a : Int) (n : Nat) (h0 : 0 < n) (h1 : n ≤ 1000000) : ∃ K : Nat, K < n ∧ wrap64 ((IntKind.u64.wrap a).tmod n) = K := by
  have hw : IntKind.u64.wrap a = a % 18446744073709551616 := by simp [IntKind.wrap, IntKind.bits, IntKind.signed]
  have h2 : 0 ≤ IntKind.u64.wrap a := by rw [hw]; omega
  obtain ⟨m, hm⟩ := Int.eq_ofNat_of_zero_le h2
  refine ⟨m % n, Nat.mod_lt _ h0, ?_⟩
  rw [hm]
  have : ((m : Int)).tmod (n : Int) = ((m % n : Nat) : Int) := by
    rw [Int.tmod_eq_emod_of_nonneg (by omega)]; rfl
  rw [this]
  have hl := Nat.mod_lt m h0
  unfold wrap64
  omega
theorem uidx' (a : Int) (M : Nat) (h1 : M ≤ 100000) : ∃ K : Nat, K ≤ M ∧ wrap64 ((IntKind.u64.wrap a).tmod (IntKind.u64.wrap (wrap64 ((M : Int) + 1)))) = K := by
  obtain ⟨K, hK, h⟩ := uidx a (M + 1) (by omega) (by omega)
  have hw : ∀ n : Int, IntKind.u64.wrap n = n % 18446744073709551616 := fun n => by simp [IntKind.wrap, IntKind.bits, IntKind.signed]
  have e1 : wrap64 ((M : Int) + 1) = (M : Int) + 1 := by unfold wrap64; omega
  have e2 : IntKind.u64.wrap ((M : Int) + 1) = ((M + 1 : Nat) : Int) := by rw [hw]; omega
  exact ⟨K, by omega, by rw [e1, e2]; exact h⟩
end Go.Proofs.YtfihmpkkpgmdhaaGreatDoor
