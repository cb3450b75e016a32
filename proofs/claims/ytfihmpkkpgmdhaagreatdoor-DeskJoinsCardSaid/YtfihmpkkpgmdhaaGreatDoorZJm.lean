/-
  What the proof of DeskJoins leans on: plain definitions and laws, and contracts of functions that it reaches. No condition besides those that each theorem names.
-/
import Derived.Test.YtfihmpkkpgmdhaaGreatDoorZJl
/-
  DeskJoins, walked.
-/
namespace Go.Proofs.YtfihmpkkpgmdhaaGreatDoor
set_option maxRecDepth 100000
set_option linter.unusedSimpArgs false
set_option linter.unusedVariables false
set_option linter.unnecessarySimpa false
open Go.RowKit
theorem brk_all : ∀ {l : List (List UInt8)}, (∀ s ∈ l, s.contains 10 = false) → brk l = none
  | [], _ => rfl
  | a :: l, h => by
    unfold brk
    rw [if_neg (by rw [h a (List.mem_cons_self ..)]; decide), brk_all fun s hs => h s (List.mem_cons_of_mem _ hs)]
    rfl
theorem brk_take {l : List (List UInt8)} (h : brk l = none) (k : Nat) : brk (l.take k) = none := brk_all fun s hs => brk_none h s (List.mem_of_mem_take hs)
theorem brk_drop {l : List (List UInt8)} (h : brk l = none) (k : Nat) : brk (l.drop k) = none := brk_all fun s hs => brk_none h s (List.mem_of_mem_drop hs)
theorem brk_parts {l : List (List UInt8)} {k : Nat} (h1 : brk (l.take k) = none) (h2 : brk (l.drop k) = none) : brk l = none := brk_all fun s hs => by
  rw [← List.take_append_drop k l, List.mem_append] at hs
  rcases hs with hs | hs
  · exact brk_none h1 s hs
  · exact brk_none h2 s hs
/-- A row's first ones. -/
theorem row_take {w : World} {a : Option Addr} {n c k : Nat} {l : List (List UInt8)} (h : RowAt w (.slice a n c) n (svls l)) (hn : n = l.length) (hk : k ≤ n) : RowAt w (.slice a k c) (l.take k).length (svls (l.take k)) := by
  obtain ⟨a', c', e, h1, h2, h3, h4⟩ := h
  simp only [Value.slice.injEq] at e
  obtain ⟨rfl, -, rfl⟩ := e
  have hl : (l.take k).length = k := by rw [List.length_take]; omega
  rw [hl]
  refine ⟨_, _, rfl, by omega, h2, h3, fun h0 => ?_⟩
  obtain ⟨g, off, rfl, h5⟩ := h4 (by omega)
  refine ⟨g, off, rfl, fun j u hj => h5 j u ?_⟩
  simp only [svls, List.getElem?_map, List.getElem?_take] at hj ⊢
  split at hj
  · exact hj
  · cases hj
/-- A row's last ones. -/
theorem row_drop {w : World} {g off n c k : Nat} {l : List (List UInt8)} (h : RowAt w (.slice (some ⟨g, off, none⟩) n c) n (svls l)) (hn : n = l.length) (hk : k ≤ n) : RowAt w (.slice (some ⟨g, off + k, none⟩) (n - k) (c - k)) (l.drop k).length (svls (l.drop k)) := by
  obtain ⟨a', c', e, h1, h2, h3, h4⟩ := h
  simp only [Value.slice.injEq] at e
  obtain ⟨rfl, -, rfl⟩ := e
  have hl : (l.drop k).length = n - k := by rw [List.length_drop]; omega
  rw [hl]
  refine ⟨_, _, rfl, by omega, by omega, by simp, fun h0 => ⟨_, _, rfl, fun j u hj => ?_⟩⟩
  obtain ⟨g', off', e, h5⟩ := h4 (by omega)
  simp only [Option.some.injEq, Addr.mk.injEq, and_true] at e
  obtain ⟨rfl, rfl⟩ := e
  have := h5 (k + j) u (by simpa [svls, List.getElem?_drop] using hj)
  rw [Nat.add_assoc]
  exact this
theorem row_nil {w : World} {a : Option Addr} {c : Nat} (hc : c ≤ maxLen) (ha : a = none → c = 0) : RowAt w (.slice a 0 c) ([] : List (List UInt8)).length (svls []) := ⟨_, _, rfl, Nat.zero_le _, hc, ha, fun e => absurd rfl e⟩
set_option maxHeartbeats 8000000 in
theorem joins_mid_ok (g off cc : Nat) (l : List (List UInt8)) (cut : Int) (K : Nat) (w : World) (hl : Laid w) (c1 : l.length ≤ cc) (c2 : cc ≤ 9223372036854775807) (hk1 : K ≤ l.length) (hk2 : K < cc) (hb : brk l = none) (hK : wrap64 ((IntKind.u64.wrap cut).tmod ((l.length : Int) + 1)) = (K : Int)) (hlen : l.length ≤ 150) (hz : ∀ s ∈ l, s.length ≤ 140737488351232) (h1 : RowAt w (.slice (some ⟨g, off, none⟩) l.length cc) l.length (svls l)) (h2 : RowAt w (.slice (some ⟨g, off, none⟩) K cc) (l.take K).length (svls (l.take K))) (h3 : RowAt w (.slice (some ⟨g, off + K, none⟩) (l.length - K) (cc - K)) (l.drop K).length (svls (l.drop K))) :
    Calls Tryz.prog 4 #[(.slice (some ⟨g, off, none⟩) l.length cc), .int .i64 cut] w fun e w' => e = .returned (.bool true) ∧ Below w.heap.size w w' := by
  have HL := Lib.hid hl; have HZ := Lib.hid hz; have HR1 := Lib.hid h1; have HR2 := Lib.hid h2; have HR3 := Lib.hid h3
  clear hl hz h1 h2 h3
  have hn1 : ¬ (150 : Int) < (l.length : Int) := by omega
  have hw1 : IntKind.u64.wrap ((l.length : Int) + 1) = (l.length : Int) + 1 := by unfold IntKind.wrap; simp [IntKind.bits, IntKind.signed]; omega
  have hw2 : ¬ ((l.length : Int) + 1) = 0 := by omega
  have HB := Lib.hid hb; clear hb
  have hk3 : (K : Int) ≤ (cc : Int) := by omega
  have hk4 : (K : Int) ≤ (l.length : Int) := by omega
  go_enter Tryz.func4, Tryz.ntmps4
  go_wp2_with fail
  refine (deskBegun_any _ HL.out).mono ?_
  rintro e w1 ⟨rfl, hb1⟩
  have H1 := Lib.hid ((lay_start HL.out).below hb1)
  have Q1 := Lib.hid (Quiet.below hb1); clear hb1
  go_wp2_with fail
  refine (slow_sl _ l _ (lay_row HR1.out H1.out) (by omega) HZ.out).mono ?_
  rintro e w2 ⟨c, rfl, rfl, hc⟩
  cases c with
  | true =>
    go_wp2
    go_ret
    exact ⟨rfl, (lay_of H1.out).left.toBelow' Q1.out⟩
  | false =>
    have HC := Lib.hid (hc rfl); clear hc
    go_wp2_with fail
    try simp only [hK]
    refine (knew_sl _ H1.out).mono ?_
    rintro e w3 ⟨b1, g1, rfl, q3, h3⟩
    have H3 := Lib.hid h3; have Q3 := Lib.hid (Q1.out.trans q3); clear h3 q3
    go_wp2_with fail
    refine (knew_sl _ H3.out).mono ?_
    rintro e w4 ⟨b2, g2, rfl, q4, h4⟩
    have H4 := Lib.hid (h4.eq (by ac_rfl : _ = kbl b1 g1 * (gld g1 Gld.zero * (lay w * (kbl b2 g2 * (gld g2 Gld.zero * HP.emp)))))); have Q4 := Lib.hid (Q3.out.trans q4); clear h4 q4
    go_wp2_with fail
    refine (kdo_sl b1 g1 Gld.zero _ (l.take K) _ H4.out good_zero (fun W h => lay_row HR2.out h) (fun s hs => HC.out s (List.mem_of_mem_take hs))).mono ?_
    rintro e w5 ⟨T1, c1, a1, G1, rfl, q5, h5, hg5, x5, y5, z5⟩
    obtain ⟨rfl, rfl, hT1, hG1⟩ := x5 (by rw [List.length_take]; omega) (brk_take HB.out K)
    have HT1 := Lib.hid hT1; have HG1 := Lib.hid hG1
    clear y5 z5 hT1 hG1
    obtain ⟨p1, hp1⟩ : ∃ p, w5.heap.size = p := ⟨_, rfl⟩
    have H5 := Lib.hid (h5.boxB (ty := 31) (cs := [.int .i64 0, .int .i64 0]) hp1); have Q5 := Lib.hid ((Q4.out.trans q5).alloc (.cells #[.int .i64 0, .int .i64 0] 31)); have HG5 := Lib.hid hg5
    clear h5 q5 hg5
    go_wp2_with (refine wpList_store_whole rfl 31 _ _ rfl p1 [.int .i64 0, .int .i64 0] rfl rfl H5.out.bl rfl (by kernel_rfl) (by simp [Ones, Value.oneCell']) ?_; intro w6 h1' h2' h3'; have H6 := Lib.hid (H5.out.grown h2' h1'); have Q6 := Lib.hid (Q5.out.trans (Quiet.grown h2')); clear h1' h2' h3')
    refine (kdo_sl b2 g2 Gld.zero _ l _ (H6.out.eq (by ac_rfl : _ = kbl b2 g2 * (gld g2 Gld.zero * (lay w * (bl p1 31 [.int .i64 0, .int .i64 0] * (kbl b1 g1 * (gld g1 G1 * HP.emp))))))) good_zero (fun W h => lay_row HR1.out h) HC.out).mono ?_
    rintro e w7 ⟨T2, c2, a2, G2, rfl, q7, h7, hg7, x7, y7, z7⟩
    obtain ⟨rfl, rfl, hT2, hG2⟩ := x7 hlen HB.out
    have HT2 := Lib.hid hT2; have HG2 := Lib.hid hG2
    clear y7 z7 hT2 hG2 hg7
    obtain ⟨p2, hp2⟩ : ∃ p, w7.heap.size = p := ⟨_, rfl⟩
    have H7 := Lib.hid (h7.boxB (ty := 31) (cs := [.int .i64 0, .int .i64 0]) hp2); have Q7 := Lib.hid ((Q6.out.trans q7).alloc (.cells #[.int .i64 0, .int .i64 0] 31))
    clear h7 q7
    go_wp2_with (refine wpList_store_whole rfl 31 _ _ rfl p2 [.int .i64 0, .int .i64 0] rfl rfl H7.out.bl rfl (by kernel_rfl) (by simp [Ones, Value.oneCell']) ?_; intro w8 h1' h2' h3'; have H8 := Lib.hid (H7.out.grown h2' h1'); have Q8 := Lib.hid (Q7.out.trans (Quiet.grown h2')); clear h1' h2' h3')
    refine (kdo_sl b1 g1 G1 _ (l.drop K) _ (H8.out.eq (by ac_rfl : _ = kbl b1 g1 * (gld g1 G1 * (lay w * (bl p1 31 [.int .i64 0, .int .i64 0] * (bl p2 31 [.int .i64 0, .int .i64 0] * (kbl b2 g2 * (gld g2 G2 * HP.emp)))))))) HG5.out (fun W h => lay_row HR3.out h) (fun s hs => HC.out s (List.mem_of_mem_drop hs))).mono ?_
    rintro e w9 ⟨T3, c3, a3, G3, rfl, q9, h9, hg9, x9, y9, z9⟩
    obtain ⟨rfl, rfl, hT3, hG3⟩ := x9 (by rw [List.length_drop]; omega) (brk_drop HB.out K)
    have HT3 := Lib.hid hT3; have HG3 := Lib.hid hG3
    clear y9 z9 hT3 hG3 hg9
    obtain ⟨p3, hp3⟩ : ∃ p, w9.heap.size = p := ⟨_, rfl⟩
    have H9 := Lib.hid (h9.boxB (ty := 31) (cs := [.int .i64 0, .int .i64 0]) hp3); have Q9 := Lib.hid ((Q8.out.trans q9).alloc (.cells #[.int .i64 0, .int .i64 0] 31))
    clear h9 q9
    go_wp2_with (refine wpList_store_whole rfl 31 _ _ rfl p3 [.int .i64 0, .int .i64 0] rfl rfl H9.out.bl rfl (by kernel_rfl) (by simp [Ones, Value.oneCell']) ?_; intro wa h1' h2' h3'; have HA := Lib.hid ((H9.out.grown h2' h1').eq (by ac_rfl : _ = bl p1 31 [.int .i64 0, .int .i64 0] * (bl p2 31 [.int .i64 0, .int .i64 0] * (bl p3 31 [.int .i64 0, .int .i64 0] * (lay w * (kbl b1 g1 * (gld g1 G3 * (kbl b2 g2 * (gld g2 G2 * HP.emp))))))))); have QA := Lib.hid (Q9.out.trans (Quiet.grown h2')); have y1 := HA.out.bl.cell 0 _ rfl; have y2 := HA.out.two.bl.cell 0 _ rfl; have y3 := HA.out.three.bl.cell 0 _ rfl; clear h1' h2' h3')
    refine (knew_sl _ HA.out).mono ?_
    rintro e wb ⟨b3, g3, rfl, qb, hb⟩
    have HB3 := Lib.hid (hb.eq (by ac_rfl : _ = kbl b3 g3 * (gld g3 Gld.zero * (lay w * (bl p1 31 [.int .i64 0, .int .i64 0] * (bl p2 31 [.int .i64 0, .int .i64 0] * (bl p3 31 [.int .i64 0, .int .i64 0] * (kbl b1 g1 * (gld g1 G3 * (kbl b2 g2 * (gld g2 G2 * HP.emp))))))))))); have QB := Lib.hid (QA.out.trans qb); clear hb qb y1 y2 y3
    go_wp2_with fail
    refine (kdo_sl b3 g3 Gld.zero _ l _ HB3.out good_zero (fun W h => lay_row HR1.out h) HC.out).mono ?_
    rintro e wc ⟨T4, c4, a4, G4, rfl, qc, hc, hgc, xc, yc, zc⟩
    obtain ⟨rfl, rfl, hT4, hG4⟩ := xc hlen HB.out
    clear yc zc hG4 hgc
    obtain ⟨p4, hp4⟩ : ∃ p, wc.heap.size = p := ⟨_, rfl⟩
    have HC4 := Lib.hid (hc.boxB (ty := 31) (cs := [.int .i64 0, .int .i64 0]) hp4); have QC4 := Lib.hid ((QB.out.trans qc).alloc (.cells #[.int .i64 0, .int .i64 0] 31))
    clear hc qc
    have e1 : T1 ++ T3 = T2 := by
      rw [HT1.out, HT2.out, HT3.out, HG1.out]
      conv => rhs; rw [← List.take_append_drop K l, tells_append]
    have e2 : T4 = T2 := by rw [hT4, HT2.out]
    have l1 : T1.length ≤ 50000 * 150 := by
      have := tells_len (g := Gld.zero) (l.take K) good_zero
      rw [← HT1.out, List.length_take] at this
      omega
    have l3 : T3.length ≤ 50000 * 150 := by
      have := tells_len (l.drop K) HG5.out
      rw [← HT3.out, List.length_drop] at this
      omega
    clear hT4
    subst e2
    obtain ⟨S1, hS1⟩ : ∃ S, strOf T1 = S := ⟨_, rfl⟩
    obtain ⟨S2, hS2⟩ : ∃ S, strOf T4 = S := ⟨_, rfl⟩
    obtain ⟨S3, hS3⟩ : ∃ S, strOf T3 = S := ⟨_, rfl⟩
    have s1 : S1.size ≤ 7500000 := by rw [← hS1, strOf_size]; exact l1
    have s3 : S3.size ≤ 7500000 := by rw [← hS3, strOf_size]; exact l3
    have s2 : S1 ++ S3 = S2 := by rw [← hS1, ← hS3, ← hS2, strOf_append, e1]
    rw [hS1, hS2, hS3]
    clear e1 l1 l3 hS1 hS2 hS3
    go_wp2_with (first | (refine wpList_store_whole rfl 31 _ _ rfl p4 [.int .i64 0, .int .i64 0] rfl rfl HC4.out.bl rfl (by kernel_rfl) (by simp [Ones, Value.oneCell']) ?_; intro wd h1' h2' h3'; have HD := Lib.hid ((HC4.out.grown h2' h1').eq (by ac_rfl : _ = bl p1 31 [.int .i64 0, .int .i64 0] * (bl p3 31 [.int .i64 0, .int .i64 0] * (lay w * (bl p4 31 [.int .i64 0, .int .i64 0] * (bl p2 31 [.int .i64 0, .int .i64 0] * (kbl b3 g3 * (gld g3 G4 * (kbl b1 g1 * (gld g1 G3 * (kbl b2 g2 * (gld g2 G2 * HP.emp)))))))))))); have QD := Lib.hid (QC4.out.trans (Quiet.grown h2')); have y1 := HD.out.bl.cell 0 _ rfl; have y3 := HD.out.two.bl.cell 0 _ rfl; clear h1' h2' h3'))
    go_ret
    exact ⟨by simp [s2], (lay_of HD.out.three).left.toBelow' QD.out⟩
set_option maxHeartbeats 8000000 in
theorem joins_mid_bad (g off cc : Nat) (l : List (List UInt8)) (cut : Int) (K : Nat) (w : World) (hl : Laid w) (c1 : l.length ≤ cc) (c2 : cc ≤ 9223372036854775807) (hk1 : K ≤ l.length) (hk2 : K < cc) (hb : ∃ i, brk l = some i) (hK : wrap64 ((IntKind.u64.wrap cut).tmod ((l.length : Int) + 1)) = (K : Int)) (hlen : l.length ≤ 150) (hz : ∀ s ∈ l, s.length ≤ 140737488351232) (h1 : RowAt w (.slice (some ⟨g, off, none⟩) l.length cc) l.length (svls l)) (h2 : RowAt w (.slice (some ⟨g, off, none⟩) K cc) (l.take K).length (svls (l.take K))) (h3 : RowAt w (.slice (some ⟨g, off + K, none⟩) (l.length - K) (cc - K)) (l.drop K).length (svls (l.drop K))) :
    Calls Tryz.prog 4 #[(.slice (some ⟨g, off, none⟩) l.length cc), .int .i64 cut] w fun e w' => e = .returned (.bool true) ∧ Below w.heap.size w w' := by
  have HL := Lib.hid hl; have HZ := Lib.hid hz; have HR1 := Lib.hid h1; have HR2 := Lib.hid h2; have HR3 := Lib.hid h3
  clear hl hz h1 h2 h3
  have hn1 : ¬ (150 : Int) < (l.length : Int) := by omega
  have hw1 : IntKind.u64.wrap ((l.length : Int) + 1) = (l.length : Int) + 1 := by unfold IntKind.wrap; simp [IntKind.bits, IntKind.signed]; omega
  have hw2 : ¬ ((l.length : Int) + 1) = 0 := by omega
  have HB := Lib.hid hb; clear hb
  have hk3 : (K : Int) ≤ (cc : Int) := by omega
  have hk4 : (K : Int) ≤ (l.length : Int) := by omega
  go_enter Tryz.func4, Tryz.ntmps4
  go_wp2_with fail
  refine (deskBegun_any _ HL.out).mono ?_
  rintro e w1 ⟨rfl, hb1⟩
  have H1 := Lib.hid ((lay_start HL.out).below hb1)
  have Q1 := Lib.hid (Quiet.below hb1); clear hb1
  go_wp2_with fail
  refine (slow_sl _ l _ (lay_row HR1.out H1.out) (by omega) HZ.out).mono ?_
  rintro e w2 ⟨c, rfl, rfl, hc⟩
  cases c with
  | true =>
    go_wp2
    go_ret
    exact ⟨rfl, (lay_of H1.out).left.toBelow' Q1.out⟩
  | false =>
    have HC := Lib.hid (hc rfl); clear hc
    go_wp2_with fail
    try simp only [hK]
    refine (knew_sl _ H1.out).mono ?_
    rintro e w3 ⟨b1, g1, rfl, q3, h3⟩
    have H3 := Lib.hid h3; have Q3 := Lib.hid (Q1.out.trans q3); clear h3 q3
    go_wp2_with fail
    refine (knew_sl _ H3.out).mono ?_
    rintro e w4 ⟨b2, g2, rfl, q4, h4⟩
    have H4 := Lib.hid (h4.eq (by ac_rfl : _ = kbl b1 g1 * (gld g1 Gld.zero * (lay w * (kbl b2 g2 * (gld g2 Gld.zero * HP.emp)))))); have Q4 := Lib.hid (Q3.out.trans q4); clear h4 q4
    go_wp2_with fail
    refine (kdo_sl b1 g1 Gld.zero _ (l.take K) _ H4.out good_zero (fun W h => lay_row HR2.out h) (fun s hs => HC.out s (List.mem_of_mem_take hs))).mono ?_
    rintro e w5 ⟨T1, c1, a1, G1, rfl, q5, h5, hg5, x5, y5, z5⟩
    have HX5 := Lib.hid x5; have HY5 := Lib.hid y5
    clear x5 y5 z5
    obtain ⟨p1, hp1⟩ : ∃ p, w5.heap.size = p := ⟨_, rfl⟩
    have H5 := Lib.hid (h5.boxB (ty := 31) (cs := [.int .i64 0, .int .i64 0]) hp1); have Q5 := Lib.hid ((Q4.out.trans q5).alloc (.cells #[.int .i64 0, .int .i64 0] 31)); have HG5 := Lib.hid hg5
    clear h5 q5 hg5
    go_wp2_with (refine wpList_store_whole rfl 31 _ _ rfl p1 [.int .i64 c1, .int .i64 a1] rfl rfl H5.out.bl rfl (by kernel_rfl) (by simp [Ones, Value.oneCell']) ?_; intro w6 h1' h2' h3'; have H6 := Lib.hid (H5.out.grown h2' h1'); have Q6 := Lib.hid (Q5.out.trans (Quiet.grown h2')); clear h1' h2' h3')
    refine (kdo_sl b2 g2 Gld.zero _ l _ (H6.out.eq (by ac_rfl : _ = kbl b2 g2 * (gld g2 Gld.zero * (lay w * (bl p1 31 [.int .i64 c1, .int .i64 a1] * (kbl b1 g1 * (gld g1 G1 * HP.emp))))))) good_zero (fun W h => lay_row HR1.out h) HC.out).mono ?_
    rintro e w7 ⟨T2, c2, a2, G2, rfl, q7, h7, hg7, x7, y7, z7⟩
    obtain ⟨i, hi⟩ := HB.out
    obtain ⟨rfl, rfl, rfl, hG2⟩ := y7 i hlen hi
    clear hG2 x7 z7 hg7 hi
    obtain ⟨p2, hp2⟩ : ∃ p, w7.heap.size = p := ⟨_, rfl⟩
    have H7 := Lib.hid (h7.boxB (ty := 31) (cs := [.int .i64 0, .int .i64 0]) hp2); have Q7 := Lib.hid ((Q6.out.trans q7).alloc (.cells #[.int .i64 0, .int .i64 0] 31))
    clear h7 q7
    go_wp2_with (refine wpList_store_whole rfl 31 _ _ rfl p2 [.int .i64 13, .int .i64 i] rfl rfl H7.out.bl rfl (by kernel_rfl) (by simp [Ones, Value.oneCell']) ?_; intro w8 h1' h2' h3'; have H8 := Lib.hid (H7.out.grown h2' h1'); have Q8 := Lib.hid (Q7.out.trans (Quiet.grown h2')); clear h1' h2' h3')
    refine (kdo_sl b1 g1 G1 _ (l.drop K) _ (H8.out.eq (by ac_rfl : _ = kbl b1 g1 * (gld g1 G1 * (lay w * (bl p1 31 [.int .i64 c1, .int .i64 a1] * (bl p2 31 [.int .i64 13, .int .i64 i] * (kbl b2 g2 * (gld g2 G2 * HP.emp)))))))) HG5.out (fun W h => lay_row HR3.out h) (fun s hs => HC.out s (List.mem_of_mem_drop hs))).mono ?_
    rintro e w9 ⟨T3, c3, a3, G3, rfl, q9, h9, hg9, x9, y9, z9⟩
    have HX9 := Lib.hid x9; have HY9 := Lib.hid y9
    clear x9 y9 z9 hg9
    obtain ⟨p3, hp3⟩ : ∃ p, w9.heap.size = p := ⟨_, rfl⟩
    have H9 := Lib.hid (h9.boxB (ty := 31) (cs := [.int .i64 0, .int .i64 0]) hp3); have Q9 := Lib.hid ((Q8.out.trans q9).alloc (.cells #[.int .i64 0, .int .i64 0] 31))
    clear h9 q9
    go_wp2_with (refine wpList_store_whole rfl 31 _ _ rfl p3 [.int .i64 c3, .int .i64 a3] rfl rfl H9.out.bl rfl (by kernel_rfl) (by simp [Ones, Value.oneCell']) ?_; intro wa h1' h2' h3'; have HA := Lib.hid ((H9.out.grown h2' h1').eq (by ac_rfl : _ = bl p1 31 [.int .i64 c1, .int .i64 a1] * (bl p2 31 [.int .i64 13, .int .i64 i] * (bl p3 31 [.int .i64 c3, .int .i64 a3] * (lay w * (kbl b1 g1 * (gld g1 G3 * (kbl b2 g2 * (gld g2 G2 * HP.emp))))))))); have QA := Lib.hid (Q9.out.trans (Quiet.grown h2')); have y1 := HA.out.bl.cell 0 _ rfl; have y2 := HA.out.two.bl.cell 0 _ rfl; have y3 := HA.out.three.bl.cell 0 _ rfl; clear h1' h2' h3')
    have hcc : ¬ (c1 = 0 ∧ c3 = 0) := by
      rintro ⟨rfl, rfl⟩
      obtain ⟨i, hi⟩ := HB.out
      have t1 : brk (l.take K) = none := by
        cases h : brk (l.take K) with
        | none => rfl
        | some j => have := (HY5.out j (by rw [List.length_take]; omega) h).1; omega
      have t3 : brk (l.drop K) = none := by
        cases h : brk (l.drop K) with
        | none => rfl
        | some j => have := (HY9.out j (by rw [List.length_drop]; omega) h).1; omega
      rw [brk_parts t1 t3] at hi
      cases hi
    all_goals (go_ret; first | exact ⟨rfl, (lay_of HA.out.four).left.toBelow' QA.out⟩ | exact ⟨congrArg (fun b => Ending.returned (.bool b)) (show (c3 != 0) = true from bne_iff_ne.2 fun e => hcc ⟨by assumption, e⟩), (lay_of HA.out.four).left.toBelow' QA.out⟩)
set_option maxHeartbeats 8000000 in
theorem joins_end_ok (g off : Nat) (l : List (List UInt8)) (cut : Int) (K : Nat) (w : World) (hl : Laid w) (c2 : l.length ≤ 9223372036854775807) (hk1 : K = l.length) (hb : brk l = none) (hK : wrap64 ((IntKind.u64.wrap cut).tmod ((l.length : Int) + 1)) = (K : Int)) (hlen : l.length ≤ 150) (hz : ∀ s ∈ l, s.length ≤ 140737488351232) (h1 : RowAt w (.slice (some ⟨g, off, none⟩) l.length l.length) l.length (svls l)) (h2 : RowAt w (.slice (some ⟨g, off, none⟩) l.length l.length) (l.take K).length (svls (l.take K))) (h3 : RowAt w (.slice (some ⟨g, off, none⟩) 0 0) (l.drop K).length (svls (l.drop K))) :
    Calls Tryz.prog 4 #[(.slice (some ⟨g, off, none⟩) l.length l.length), .int .i64 cut] w fun e w' => e = .returned (.bool true) ∧ Below w.heap.size w w' := by
  have HL := Lib.hid hl; have HZ := Lib.hid hz; have HR1 := Lib.hid h1; have HR2 := Lib.hid h2; have HR3 := Lib.hid h3
  clear hl hz h1 h2 h3
  have hn1 : ¬ (150 : Int) < (l.length : Int) := by omega
  have hw1 : IntKind.u64.wrap ((l.length : Int) + 1) = (l.length : Int) + 1 := by unfold IntKind.wrap; simp [IntKind.bits, IntKind.signed]; omega
  have hw2 : ¬ ((l.length : Int) + 1) = 0 := by omega
  have HB := Lib.hid hb; clear hb
  go_enter Tryz.func4, Tryz.ntmps4
  go_wp2_with fail
  refine (deskBegun_any _ HL.out).mono ?_
  rintro e w1 ⟨rfl, hb1⟩
  have H1 := Lib.hid ((lay_start HL.out).below hb1)
  have Q1 := Lib.hid (Quiet.below hb1); clear hb1
  go_wp2_with fail
  refine (slow_sl _ l _ (lay_row HR1.out H1.out) (by omega) HZ.out).mono ?_
  rintro e w2 ⟨c, rfl, rfl, hc⟩
  cases c with
  | true =>
    go_wp2
    go_ret
    exact ⟨rfl, (lay_of H1.out).left.toBelow' Q1.out⟩
  | false =>
    have HC := Lib.hid (hc rfl); clear hc
    go_wp2_with fail
    try simp only [hK]
    refine (knew_sl _ H1.out).mono ?_
    rintro e w3 ⟨b1, g1, rfl, q3, h3⟩
    have H3 := Lib.hid h3; have Q3 := Lib.hid (Q1.out.trans q3); clear h3 q3
    go_wp2_with fail
    refine (knew_sl _ H3.out).mono ?_
    rintro e w4 ⟨b2, g2, rfl, q4, h4⟩
    have H4 := Lib.hid (h4.eq (by ac_rfl : _ = kbl b1 g1 * (gld g1 Gld.zero * (lay w * (kbl b2 g2 * (gld g2 Gld.zero * HP.emp)))))); have Q4 := Lib.hid (Q3.out.trans q4); clear h4 q4
    go_wp2_with fail
    refine (kdo_sl b1 g1 Gld.zero _ (l.take K) _ H4.out good_zero (fun W h => lay_row HR2.out h) (fun s hs => HC.out s (List.mem_of_mem_take hs))).mono ?_
    rintro e w5 ⟨T1, c1, a1, G1, rfl, q5, h5, hg5, x5, y5, z5⟩
    obtain ⟨rfl, rfl, hT1, hG1⟩ := x5 (by rw [List.length_take]; omega) (brk_take HB.out K)
    have HT1 := Lib.hid hT1; have HG1 := Lib.hid hG1
    clear y5 z5 hT1 hG1
    obtain ⟨p1, hp1⟩ : ∃ p, w5.heap.size = p := ⟨_, rfl⟩
    have H5 := Lib.hid (h5.boxB (ty := 31) (cs := [.int .i64 0, .int .i64 0]) hp1); have Q5 := Lib.hid ((Q4.out.trans q5).alloc (.cells #[.int .i64 0, .int .i64 0] 31)); have HG5 := Lib.hid hg5
    clear h5 q5 hg5
    go_wp2_with (refine wpList_store_whole rfl 31 _ _ rfl p1 [.int .i64 0, .int .i64 0] rfl rfl H5.out.bl rfl (by kernel_rfl) (by simp [Ones, Value.oneCell']) ?_; intro w6 h1' h2' h3'; have H6 := Lib.hid (H5.out.grown h2' h1'); have Q6 := Lib.hid (Q5.out.trans (Quiet.grown h2')); clear h1' h2' h3')
    refine (kdo_sl b2 g2 Gld.zero _ l _ (H6.out.eq (by ac_rfl : _ = kbl b2 g2 * (gld g2 Gld.zero * (lay w * (bl p1 31 [.int .i64 0, .int .i64 0] * (kbl b1 g1 * (gld g1 G1 * HP.emp))))))) good_zero (fun W h => lay_row HR1.out h) HC.out).mono ?_
    rintro e w7 ⟨T2, c2, a2, G2, rfl, q7, h7, hg7, x7, y7, z7⟩
    obtain ⟨rfl, rfl, hT2, hG2⟩ := x7 hlen HB.out
    have HT2 := Lib.hid hT2; have HG2 := Lib.hid hG2
    clear y7 z7 hT2 hG2 hg7
    obtain ⟨p2, hp2⟩ : ∃ p, w7.heap.size = p := ⟨_, rfl⟩
    have H7 := Lib.hid (h7.boxB (ty := 31) (cs := [.int .i64 0, .int .i64 0]) hp2); have Q7 := Lib.hid ((Q6.out.trans q7).alloc (.cells #[.int .i64 0, .int .i64 0] 31))
    clear h7 q7
    go_wp2_with (refine wpList_store_whole rfl 31 _ _ rfl p2 [.int .i64 0, .int .i64 0] rfl rfl H7.out.bl rfl (by kernel_rfl) (by simp [Ones, Value.oneCell']) ?_; intro w8 h1' h2' h3'; have H8 := Lib.hid (H7.out.grown h2' h1'); have Q8 := Lib.hid (Q7.out.trans (Quiet.grown h2')); clear h1' h2' h3')
    refine (kdo_sl b1 g1 G1 _ (l.drop K) _ (H8.out.eq (by ac_rfl : _ = kbl b1 g1 * (gld g1 G1 * (lay w * (bl p1 31 [.int .i64 0, .int .i64 0] * (bl p2 31 [.int .i64 0, .int .i64 0] * (kbl b2 g2 * (gld g2 G2 * HP.emp)))))))) HG5.out (fun W h => lay_row HR3.out h) (fun s hs => HC.out s (List.mem_of_mem_drop hs))).mono ?_
    rintro e w9 ⟨T3, c3, a3, G3, rfl, q9, h9, hg9, x9, y9, z9⟩
    obtain ⟨rfl, rfl, hT3, hG3⟩ := x9 (by rw [List.length_drop]; omega) (brk_drop HB.out K)
    have HT3 := Lib.hid hT3; have HG3 := Lib.hid hG3
    clear y9 z9 hT3 hG3 hg9
    obtain ⟨p3, hp3⟩ : ∃ p, w9.heap.size = p := ⟨_, rfl⟩
    have H9 := Lib.hid (h9.boxB (ty := 31) (cs := [.int .i64 0, .int .i64 0]) hp3); have Q9 := Lib.hid ((Q8.out.trans q9).alloc (.cells #[.int .i64 0, .int .i64 0] 31))
    clear h9 q9
    go_wp2_with (refine wpList_store_whole rfl 31 _ _ rfl p3 [.int .i64 0, .int .i64 0] rfl rfl H9.out.bl rfl (by kernel_rfl) (by simp [Ones, Value.oneCell']) ?_; intro wa h1' h2' h3'; have HA := Lib.hid ((H9.out.grown h2' h1').eq (by ac_rfl : _ = bl p1 31 [.int .i64 0, .int .i64 0] * (bl p2 31 [.int .i64 0, .int .i64 0] * (bl p3 31 [.int .i64 0, .int .i64 0] * (lay w * (kbl b1 g1 * (gld g1 G3 * (kbl b2 g2 * (gld g2 G2 * HP.emp))))))))); have QA := Lib.hid (Q9.out.trans (Quiet.grown h2')); have y1 := HA.out.bl.cell 0 _ rfl; have y2 := HA.out.two.bl.cell 0 _ rfl; have y3 := HA.out.three.bl.cell 0 _ rfl; clear h1' h2' h3')
    refine (knew_sl _ HA.out).mono ?_
    rintro e wb ⟨b3, g3, rfl, qb, hb⟩
    have HB3 := Lib.hid (hb.eq (by ac_rfl : _ = kbl b3 g3 * (gld g3 Gld.zero * (lay w * (bl p1 31 [.int .i64 0, .int .i64 0] * (bl p2 31 [.int .i64 0, .int .i64 0] * (bl p3 31 [.int .i64 0, .int .i64 0] * (kbl b1 g1 * (gld g1 G3 * (kbl b2 g2 * (gld g2 G2 * HP.emp))))))))))); have QB := Lib.hid (QA.out.trans qb); clear hb qb y1 y2 y3
    go_wp2_with fail
    refine (kdo_sl b3 g3 Gld.zero _ l _ HB3.out good_zero (fun W h => lay_row HR1.out h) HC.out).mono ?_
    rintro e wc ⟨T4, c4, a4, G4, rfl, qc, hc, hgc, xc, yc, zc⟩
    obtain ⟨rfl, rfl, hT4, hG4⟩ := xc hlen HB.out
    clear yc zc hG4 hgc
    obtain ⟨p4, hp4⟩ : ∃ p, wc.heap.size = p := ⟨_, rfl⟩
    have HC4 := Lib.hid (hc.boxB (ty := 31) (cs := [.int .i64 0, .int .i64 0]) hp4); have QC4 := Lib.hid ((QB.out.trans qc).alloc (.cells #[.int .i64 0, .int .i64 0] 31))
    clear hc qc
    have e1 : T1 ++ T3 = T2 := by
      rw [HT1.out, HT2.out, HT3.out, HG1.out]
      conv => rhs; rw [← List.take_append_drop K l, tells_append]
    have e2 : T4 = T2 := by rw [hT4, HT2.out]
    have l1 : T1.length ≤ 50000 * 150 := by
      have := tells_len (g := Gld.zero) (l.take K) good_zero
      rw [← HT1.out, List.length_take] at this
      omega
    have l3 : T3.length ≤ 50000 * 150 := by
      have := tells_len (l.drop K) HG5.out
      rw [← HT3.out, List.length_drop] at this
      omega
    clear hT4
    subst e2
    obtain ⟨S1, hS1⟩ : ∃ S, strOf T1 = S := ⟨_, rfl⟩
    obtain ⟨S2, hS2⟩ : ∃ S, strOf T4 = S := ⟨_, rfl⟩
    obtain ⟨S3, hS3⟩ : ∃ S, strOf T3 = S := ⟨_, rfl⟩
    have s1 : S1.size ≤ 7500000 := by rw [← hS1, strOf_size]; exact l1
    have s3 : S3.size ≤ 7500000 := by rw [← hS3, strOf_size]; exact l3
    have s2 : S1 ++ S3 = S2 := by rw [← hS1, ← hS3, ← hS2, strOf_append, e1]
    rw [hS1, hS2, hS3]
    clear e1 l1 l3 hS1 hS2 hS3
    go_wp2_with (first | (refine wpList_store_whole rfl 31 _ _ rfl p4 [.int .i64 0, .int .i64 0] rfl rfl HC4.out.bl rfl (by kernel_rfl) (by simp [Ones, Value.oneCell']) ?_; intro wd h1' h2' h3'; have HD := Lib.hid ((HC4.out.grown h2' h1').eq (by ac_rfl : _ = bl p1 31 [.int .i64 0, .int .i64 0] * (bl p3 31 [.int .i64 0, .int .i64 0] * (lay w * (bl p4 31 [.int .i64 0, .int .i64 0] * (bl p2 31 [.int .i64 0, .int .i64 0] * (kbl b3 g3 * (gld g3 G4 * (kbl b1 g1 * (gld g1 G3 * (kbl b2 g2 * (gld g2 G2 * HP.emp)))))))))))); have QD := Lib.hid (QC4.out.trans (Quiet.grown h2')); have y1 := HD.out.bl.cell 0 _ rfl; have y3 := HD.out.two.bl.cell 0 _ rfl; clear h1' h2' h3'))
    go_ret
    exact ⟨by simp [s2], (lay_of HD.out.three).left.toBelow' QD.out⟩
set_option maxHeartbeats 8000000 in
theorem joins_end_bad (g off : Nat) (l : List (List UInt8)) (cut : Int) (K : Nat) (w : World) (hl : Laid w) (c2 : l.length ≤ 9223372036854775807) (hk1 : K = l.length) (hb : ∃ i, brk l = some i) (hK : wrap64 ((IntKind.u64.wrap cut).tmod ((l.length : Int) + 1)) = (K : Int)) (hlen : l.length ≤ 150) (hz : ∀ s ∈ l, s.length ≤ 140737488351232) (h1 : RowAt w (.slice (some ⟨g, off, none⟩) l.length l.length) l.length (svls l)) (h2 : RowAt w (.slice (some ⟨g, off, none⟩) l.length l.length) (l.take K).length (svls (l.take K))) (h3 : RowAt w (.slice (some ⟨g, off, none⟩) 0 0) (l.drop K).length (svls (l.drop K))) :
    Calls Tryz.prog 4 #[(.slice (some ⟨g, off, none⟩) l.length l.length), .int .i64 cut] w fun e w' => e = .returned (.bool true) ∧ Below w.heap.size w w' := by
  have HL := Lib.hid hl; have HZ := Lib.hid hz; have HR1 := Lib.hid h1; have HR2 := Lib.hid h2; have HR3 := Lib.hid h3
  clear hl hz h1 h2 h3
  have hn1 : ¬ (150 : Int) < (l.length : Int) := by omega
  have hw1 : IntKind.u64.wrap ((l.length : Int) + 1) = (l.length : Int) + 1 := by unfold IntKind.wrap; simp [IntKind.bits, IntKind.signed]; omega
  have hw2 : ¬ ((l.length : Int) + 1) = 0 := by omega
  have HB := Lib.hid hb; clear hb
  go_enter Tryz.func4, Tryz.ntmps4
  go_wp2_with fail
  refine (deskBegun_any _ HL.out).mono ?_
  rintro e w1 ⟨rfl, hb1⟩
  have H1 := Lib.hid ((lay_start HL.out).below hb1)
  have Q1 := Lib.hid (Quiet.below hb1); clear hb1
  go_wp2_with fail
  refine (slow_sl _ l _ (lay_row HR1.out H1.out) (by omega) HZ.out).mono ?_
  rintro e w2 ⟨c, rfl, rfl, hc⟩
  cases c with
  | true =>
    go_wp2
    go_ret
    exact ⟨rfl, (lay_of H1.out).left.toBelow' Q1.out⟩
  | false =>
    have HC := Lib.hid (hc rfl); clear hc
    go_wp2_with fail
    try simp only [hK]
    refine (knew_sl _ H1.out).mono ?_
    rintro e w3 ⟨b1, g1, rfl, q3, h3⟩
    have H3 := Lib.hid h3; have Q3 := Lib.hid (Q1.out.trans q3); clear h3 q3
    go_wp2_with fail
    refine (knew_sl _ H3.out).mono ?_
    rintro e w4 ⟨b2, g2, rfl, q4, h4⟩
    have H4 := Lib.hid (h4.eq (by ac_rfl : _ = kbl b1 g1 * (gld g1 Gld.zero * (lay w * (kbl b2 g2 * (gld g2 Gld.zero * HP.emp)))))); have Q4 := Lib.hid (Q3.out.trans q4); clear h4 q4
    go_wp2_with fail
    refine (kdo_sl b1 g1 Gld.zero _ (l.take K) _ H4.out good_zero (fun W h => lay_row HR2.out h) (fun s hs => HC.out s (List.mem_of_mem_take hs))).mono ?_
    rintro e w5 ⟨T1, c1, a1, G1, rfl, q5, h5, hg5, x5, y5, z5⟩
    have HX5 := Lib.hid x5; have HY5 := Lib.hid y5
    clear x5 y5 z5
    obtain ⟨p1, hp1⟩ : ∃ p, w5.heap.size = p := ⟨_, rfl⟩
    have H5 := Lib.hid (h5.boxB (ty := 31) (cs := [.int .i64 0, .int .i64 0]) hp1); have Q5 := Lib.hid ((Q4.out.trans q5).alloc (.cells #[.int .i64 0, .int .i64 0] 31)); have HG5 := Lib.hid hg5
    clear h5 q5 hg5
    go_wp2_with (refine wpList_store_whole rfl 31 _ _ rfl p1 [.int .i64 c1, .int .i64 a1] rfl rfl H5.out.bl rfl (by kernel_rfl) (by simp [Ones, Value.oneCell']) ?_; intro w6 h1' h2' h3'; have H6 := Lib.hid (H5.out.grown h2' h1'); have Q6 := Lib.hid (Q5.out.trans (Quiet.grown h2')); clear h1' h2' h3')
    refine (kdo_sl b2 g2 Gld.zero _ l _ (H6.out.eq (by ac_rfl : _ = kbl b2 g2 * (gld g2 Gld.zero * (lay w * (bl p1 31 [.int .i64 c1, .int .i64 a1] * (kbl b1 g1 * (gld g1 G1 * HP.emp))))))) good_zero (fun W h => lay_row HR1.out h) HC.out).mono ?_
    rintro e w7 ⟨T2, c2, a2, G2, rfl, q7, h7, hg7, x7, y7, z7⟩
    obtain ⟨i, hi⟩ := HB.out
    obtain ⟨rfl, rfl, rfl, hG2⟩ := y7 i hlen hi
    clear hG2 x7 z7 hg7 hi
    obtain ⟨p2, hp2⟩ : ∃ p, w7.heap.size = p := ⟨_, rfl⟩
    have H7 := Lib.hid (h7.boxB (ty := 31) (cs := [.int .i64 0, .int .i64 0]) hp2); have Q7 := Lib.hid ((Q6.out.trans q7).alloc (.cells #[.int .i64 0, .int .i64 0] 31))
    clear h7 q7
    go_wp2_with (refine wpList_store_whole rfl 31 _ _ rfl p2 [.int .i64 13, .int .i64 i] rfl rfl H7.out.bl rfl (by kernel_rfl) (by simp [Ones, Value.oneCell']) ?_; intro w8 h1' h2' h3'; have H8 := Lib.hid (H7.out.grown h2' h1'); have Q8 := Lib.hid (Q7.out.trans (Quiet.grown h2')); clear h1' h2' h3')
    refine (kdo_sl b1 g1 G1 _ (l.drop K) _ (H8.out.eq (by ac_rfl : _ = kbl b1 g1 * (gld g1 G1 * (lay w * (bl p1 31 [.int .i64 c1, .int .i64 a1] * (bl p2 31 [.int .i64 13, .int .i64 i] * (kbl b2 g2 * (gld g2 G2 * HP.emp)))))))) HG5.out (fun W h => lay_row HR3.out h) (fun s hs => HC.out s (List.mem_of_mem_drop hs))).mono ?_
    rintro e w9 ⟨T3, c3, a3, G3, rfl, q9, h9, hg9, x9, y9, z9⟩
    have HX9 := Lib.hid x9; have HY9 := Lib.hid y9
    clear x9 y9 z9 hg9
    obtain ⟨p3, hp3⟩ : ∃ p, w9.heap.size = p := ⟨_, rfl⟩
    have H9 := Lib.hid (h9.boxB (ty := 31) (cs := [.int .i64 0, .int .i64 0]) hp3); have Q9 := Lib.hid ((Q8.out.trans q9).alloc (.cells #[.int .i64 0, .int .i64 0] 31))
    clear h9 q9
    go_wp2_with (refine wpList_store_whole rfl 31 _ _ rfl p3 [.int .i64 c3, .int .i64 a3] rfl rfl H9.out.bl rfl (by kernel_rfl) (by simp [Ones, Value.oneCell']) ?_; intro wa h1' h2' h3'; have HA := Lib.hid ((H9.out.grown h2' h1').eq (by ac_rfl : _ = bl p1 31 [.int .i64 c1, .int .i64 a1] * (bl p2 31 [.int .i64 13, .int .i64 i] * (bl p3 31 [.int .i64 c3, .int .i64 a3] * (lay w * (kbl b1 g1 * (gld g1 G3 * (kbl b2 g2 * (gld g2 G2 * HP.emp))))))))); have QA := Lib.hid (Q9.out.trans (Quiet.grown h2')); have y1 := HA.out.bl.cell 0 _ rfl; have y2 := HA.out.two.bl.cell 0 _ rfl; have y3 := HA.out.three.bl.cell 0 _ rfl; clear h1' h2' h3')
    have hcc : ¬ (c1 = 0 ∧ c3 = 0) := by
      rintro ⟨rfl, rfl⟩
      obtain ⟨i, hi⟩ := HB.out
      have t1 : brk (l.take K) = none := by
        cases h : brk (l.take K) with
        | none => rfl
        | some j => have := (HY5.out j (by rw [List.length_take]; omega) h).1; omega
      have t3 : brk (l.drop K) = none := by
        cases h : brk (l.drop K) with
        | none => rfl
        | some j => have := (HY9.out j (by rw [List.length_drop]; omega) h).1; omega
      rw [brk_parts t1 t3] at hi
      cases hi
    all_goals (go_ret; first | exact ⟨rfl, (lay_of HA.out.four).left.toBelow' QA.out⟩ | exact ⟨congrArg (fun b => Ending.returned (.bool b)) (show (c3 != 0) = true from bne_iff_ne.2 fun e => hcc ⟨by assumption, e⟩), (lay_of HA.out.four).left.toBelow' QA.out⟩)
set_option maxHeartbeats 8000000 in
theorem joins_none_ok  (l : List (List UInt8)) (cut : Int) (K : Nat) (w : World) (hl : Laid w) (hk1 : l = []) (hk2 : K = 0) (hb : brk l = none) (hK : wrap64 ((IntKind.u64.wrap cut).tmod ((l.length : Int) + 1)) = (K : Int)) (hlen : l.length ≤ 150) (hz : ∀ s ∈ l, s.length ≤ 140737488351232) (h1 : RowAt w (.slice none 0 0) l.length (svls l)) (h2 : RowAt w (.slice none 0 0) (l.take K).length (svls (l.take K))) (h3 : RowAt w (.slice none 0 0) (l.drop K).length (svls (l.drop K))) :
    Calls Tryz.prog 4 #[(.slice none 0 0), .int .i64 cut] w fun e w' => e = .returned (.bool true) ∧ Below w.heap.size w w' := by
  have HL := Lib.hid hl; have HZ := Lib.hid hz; have HR1 := Lib.hid h1; have HR2 := Lib.hid h2; have HR3 := Lib.hid h3
  clear hl hz h1 h2 h3
  have hn1 : ¬ (150 : Int) < (l.length : Int) := by omega
  have hw1 : IntKind.u64.wrap ((l.length : Int) + 1) = (l.length : Int) + 1 := by unfold IntKind.wrap; simp [IntKind.bits, IntKind.signed]; omega
  have hw2 : ¬ ((l.length : Int) + 1) = 0 := by omega
  have HB := Lib.hid hb; clear hb
  go_enter Tryz.func4, Tryz.ntmps4
  go_wp2_with fail
  refine (deskBegun_any _ HL.out).mono ?_
  rintro e w1 ⟨rfl, hb1⟩
  have H1 := Lib.hid ((lay_start HL.out).below hb1)
  have Q1 := Lib.hid (Quiet.below hb1); clear hb1
  go_wp2_with fail
  refine (slow_sl _ l _ (lay_row HR1.out H1.out) (by omega) HZ.out).mono ?_
  rintro e w2 ⟨c, rfl, rfl, hc⟩
  cases c with
  | true =>
    go_wp2
    go_ret
    exact ⟨rfl, (lay_of H1.out).left.toBelow' Q1.out⟩
  | false =>
    have HC := Lib.hid (hc rfl); clear hc
    go_wp2_with fail
    try simp only [hK]
    refine (knew_sl _ H1.out).mono ?_
    rintro e w3 ⟨b1, g1, rfl, q3, h3⟩
    have H3 := Lib.hid h3; have Q3 := Lib.hid (Q1.out.trans q3); clear h3 q3
    go_wp2_with fail
    refine (knew_sl _ H3.out).mono ?_
    rintro e w4 ⟨b2, g2, rfl, q4, h4⟩
    have H4 := Lib.hid (h4.eq (by ac_rfl : _ = kbl b1 g1 * (gld g1 Gld.zero * (lay w * (kbl b2 g2 * (gld g2 Gld.zero * HP.emp)))))); have Q4 := Lib.hid (Q3.out.trans q4); clear h4 q4
    go_wp2_with fail
    refine (kdo_sl b1 g1 Gld.zero _ (l.take K) _ H4.out good_zero (fun W h => lay_row HR2.out h) (fun s hs => HC.out s (List.mem_of_mem_take hs))).mono ?_
    rintro e w5 ⟨T1, c1, a1, G1, rfl, q5, h5, hg5, x5, y5, z5⟩
    obtain ⟨rfl, rfl, hT1, hG1⟩ := x5 (by rw [List.length_take]; omega) (brk_take HB.out K)
    have HT1 := Lib.hid hT1; have HG1 := Lib.hid hG1
    clear y5 z5 hT1 hG1
    obtain ⟨p1, hp1⟩ : ∃ p, w5.heap.size = p := ⟨_, rfl⟩
    have H5 := Lib.hid (h5.boxB (ty := 31) (cs := [.int .i64 0, .int .i64 0]) hp1); have Q5 := Lib.hid ((Q4.out.trans q5).alloc (.cells #[.int .i64 0, .int .i64 0] 31)); have HG5 := Lib.hid hg5
    clear h5 q5 hg5
    go_wp2_with (refine wpList_store_whole rfl 31 _ _ rfl p1 [.int .i64 0, .int .i64 0] rfl rfl H5.out.bl rfl (by kernel_rfl) (by simp [Ones, Value.oneCell']) ?_; intro w6 h1' h2' h3'; have H6 := Lib.hid (H5.out.grown h2' h1'); have Q6 := Lib.hid (Q5.out.trans (Quiet.grown h2')); clear h1' h2' h3')
    refine (kdo_sl b2 g2 Gld.zero _ l _ (H6.out.eq (by ac_rfl : _ = kbl b2 g2 * (gld g2 Gld.zero * (lay w * (bl p1 31 [.int .i64 0, .int .i64 0] * (kbl b1 g1 * (gld g1 G1 * HP.emp))))))) good_zero (fun W h => lay_row HR1.out h) HC.out).mono ?_
    rintro e w7 ⟨T2, c2, a2, G2, rfl, q7, h7, hg7, x7, y7, z7⟩
    obtain ⟨rfl, rfl, hT2, hG2⟩ := x7 hlen HB.out
    have HT2 := Lib.hid hT2; have HG2 := Lib.hid hG2
    clear y7 z7 hT2 hG2 hg7
    obtain ⟨p2, hp2⟩ : ∃ p, w7.heap.size = p := ⟨_, rfl⟩
    have H7 := Lib.hid (h7.boxB (ty := 31) (cs := [.int .i64 0, .int .i64 0]) hp2); have Q7 := Lib.hid ((Q6.out.trans q7).alloc (.cells #[.int .i64 0, .int .i64 0] 31))
    clear h7 q7
    go_wp2_with (refine wpList_store_whole rfl 31 _ _ rfl p2 [.int .i64 0, .int .i64 0] rfl rfl H7.out.bl rfl (by kernel_rfl) (by simp [Ones, Value.oneCell']) ?_; intro w8 h1' h2' h3'; have H8 := Lib.hid (H7.out.grown h2' h1'); have Q8 := Lib.hid (Q7.out.trans (Quiet.grown h2')); clear h1' h2' h3')
    refine (kdo_sl b1 g1 G1 _ (l.drop K) _ (H8.out.eq (by ac_rfl : _ = kbl b1 g1 * (gld g1 G1 * (lay w * (bl p1 31 [.int .i64 0, .int .i64 0] * (bl p2 31 [.int .i64 0, .int .i64 0] * (kbl b2 g2 * (gld g2 G2 * HP.emp)))))))) HG5.out (fun W h => lay_row HR3.out h) (fun s hs => HC.out s (List.mem_of_mem_drop hs))).mono ?_
    rintro e w9 ⟨T3, c3, a3, G3, rfl, q9, h9, hg9, x9, y9, z9⟩
    obtain ⟨rfl, rfl, hT3, hG3⟩ := x9 (by rw [List.length_drop]; omega) (brk_drop HB.out K)
    have HT3 := Lib.hid hT3; have HG3 := Lib.hid hG3
    clear y9 z9 hT3 hG3 hg9
    obtain ⟨p3, hp3⟩ : ∃ p, w9.heap.size = p := ⟨_, rfl⟩
    have H9 := Lib.hid (h9.boxB (ty := 31) (cs := [.int .i64 0, .int .i64 0]) hp3); have Q9 := Lib.hid ((Q8.out.trans q9).alloc (.cells #[.int .i64 0, .int .i64 0] 31))
    clear h9 q9
    go_wp2_with (refine wpList_store_whole rfl 31 _ _ rfl p3 [.int .i64 0, .int .i64 0] rfl rfl H9.out.bl rfl (by kernel_rfl) (by simp [Ones, Value.oneCell']) ?_; intro wa h1' h2' h3'; have HA := Lib.hid ((H9.out.grown h2' h1').eq (by ac_rfl : _ = bl p1 31 [.int .i64 0, .int .i64 0] * (bl p2 31 [.int .i64 0, .int .i64 0] * (bl p3 31 [.int .i64 0, .int .i64 0] * (lay w * (kbl b1 g1 * (gld g1 G3 * (kbl b2 g2 * (gld g2 G2 * HP.emp))))))))); have QA := Lib.hid (Q9.out.trans (Quiet.grown h2')); have y1 := HA.out.bl.cell 0 _ rfl; have y2 := HA.out.two.bl.cell 0 _ rfl; have y3 := HA.out.three.bl.cell 0 _ rfl; clear h1' h2' h3')
    refine (knew_sl _ HA.out).mono ?_
    rintro e wb ⟨b3, g3, rfl, qb, hb⟩
    have HB3 := Lib.hid (hb.eq (by ac_rfl : _ = kbl b3 g3 * (gld g3 Gld.zero * (lay w * (bl p1 31 [.int .i64 0, .int .i64 0] * (bl p2 31 [.int .i64 0, .int .i64 0] * (bl p3 31 [.int .i64 0, .int .i64 0] * (kbl b1 g1 * (gld g1 G3 * (kbl b2 g2 * (gld g2 G2 * HP.emp))))))))))); have QB := Lib.hid (QA.out.trans qb); clear hb qb y1 y2 y3
    go_wp2_with fail
    refine (kdo_sl b3 g3 Gld.zero _ l _ HB3.out good_zero (fun W h => lay_row HR1.out h) HC.out).mono ?_
    rintro e wc ⟨T4, c4, a4, G4, rfl, qc, hc, hgc, xc, yc, zc⟩
    obtain ⟨rfl, rfl, hT4, hG4⟩ := xc hlen HB.out
    clear yc zc hG4 hgc
    obtain ⟨p4, hp4⟩ : ∃ p, wc.heap.size = p := ⟨_, rfl⟩
    have HC4 := Lib.hid (hc.boxB (ty := 31) (cs := [.int .i64 0, .int .i64 0]) hp4); have QC4 := Lib.hid ((QB.out.trans qc).alloc (.cells #[.int .i64 0, .int .i64 0] 31))
    clear hc qc
    have e1 : T1 ++ T3 = T2 := by
      rw [HT1.out, HT2.out, HT3.out, HG1.out]
      conv => rhs; rw [← List.take_append_drop K l, tells_append]
    have e2 : T4 = T2 := by rw [hT4, HT2.out]
    have l1 : T1.length ≤ 50000 * 150 := by
      have := tells_len (g := Gld.zero) (l.take K) good_zero
      rw [← HT1.out, List.length_take] at this
      omega
    have l3 : T3.length ≤ 50000 * 150 := by
      have := tells_len (l.drop K) HG5.out
      rw [← HT3.out, List.length_drop] at this
      omega
    clear hT4
    subst e2
    obtain ⟨S1, hS1⟩ : ∃ S, strOf T1 = S := ⟨_, rfl⟩
    obtain ⟨S2, hS2⟩ : ∃ S, strOf T4 = S := ⟨_, rfl⟩
    obtain ⟨S3, hS3⟩ : ∃ S, strOf T3 = S := ⟨_, rfl⟩
    have s1 : S1.size ≤ 7500000 := by rw [← hS1, strOf_size]; exact l1
    have s3 : S3.size ≤ 7500000 := by rw [← hS3, strOf_size]; exact l3
    have s2 : S1 ++ S3 = S2 := by rw [← hS1, ← hS3, ← hS2, strOf_append, e1]
    rw [hS1, hS2, hS3]
    clear e1 l1 l3 hS1 hS2 hS3
    go_wp2_with (first | (refine wpList_store_whole rfl 31 _ _ rfl p4 [.int .i64 0, .int .i64 0] rfl rfl HC4.out.bl rfl (by kernel_rfl) (by simp [Ones, Value.oneCell']) ?_; intro wd h1' h2' h3'; have HD := Lib.hid ((HC4.out.grown h2' h1').eq (by ac_rfl : _ = bl p1 31 [.int .i64 0, .int .i64 0] * (bl p3 31 [.int .i64 0, .int .i64 0] * (lay w * (bl p4 31 [.int .i64 0, .int .i64 0] * (bl p2 31 [.int .i64 0, .int .i64 0] * (kbl b3 g3 * (gld g3 G4 * (kbl b1 g1 * (gld g1 G3 * (kbl b2 g2 * (gld g2 G2 * HP.emp)))))))))))); have QD := Lib.hid (QC4.out.trans (Quiet.grown h2')); have y1 := HD.out.bl.cell 0 _ rfl; have y3 := HD.out.two.bl.cell 0 _ rfl; clear h1' h2' h3'))
    go_ret
    exact ⟨by simp [s2], (lay_of HD.out.three).left.toBelow' QD.out⟩
set_option maxHeartbeats 8000000 in
theorem joins_nil_ok (a : Addr) (cc : Nat) (l : List (List UInt8)) (cut : Int) (K : Nat) (w : World) (hl : Laid w) (c2 : cc ≤ 9223372036854775807) (c3 : 0 < cc) (hk1 : l = []) (hk2 : K = 0) (hb : brk l = none) (hK : wrap64 ((IntKind.u64.wrap cut).tmod ((l.length : Int) + 1)) = (K : Int)) (hlen : l.length ≤ 150) (hz : ∀ s ∈ l, s.length ≤ 140737488351232) (h1 : RowAt w (.slice (some a) 0 cc) l.length (svls l)) (h2 : RowAt w (.slice (some a) 0 cc) (l.take K).length (svls (l.take K))) (h3 : RowAt w (.slice (some (a.add 0)) 0 cc) (l.drop K).length (svls (l.drop K))) :
    Calls Tryz.prog 4 #[(.slice (some a) 0 cc), .int .i64 cut] w fun e w' => e = .returned (.bool true) ∧ Below w.heap.size w w' := by
  have HL := Lib.hid hl; have HZ := Lib.hid hz; have HR1 := Lib.hid h1; have HR2 := Lib.hid h2; have HR3 := Lib.hid h3
  clear hl hz h1 h2 h3
  have hn1 : ¬ (150 : Int) < (l.length : Int) := by omega
  have hw1 : IntKind.u64.wrap ((l.length : Int) + 1) = (l.length : Int) + 1 := by unfold IntKind.wrap; simp [IntKind.bits, IntKind.signed]; omega
  have hw2 : ¬ ((l.length : Int) + 1) = 0 := by omega
  have HB := Lib.hid hb; clear hb
  go_enter Tryz.func4, Tryz.ntmps4
  go_wp2_with fail
  refine (deskBegun_any _ HL.out).mono ?_
  rintro e w1 ⟨rfl, hb1⟩
  have H1 := Lib.hid ((lay_start HL.out).below hb1)
  have Q1 := Lib.hid (Quiet.below hb1); clear hb1
  go_wp2_with fail
  refine (slow_sl _ l _ (lay_row HR1.out H1.out) (by omega) HZ.out).mono ?_
  rintro e w2 ⟨c, rfl, rfl, hc⟩
  cases c with
  | true =>
    go_wp2
    go_ret
    exact ⟨rfl, (lay_of H1.out).left.toBelow' Q1.out⟩
  | false =>
    have HC := Lib.hid (hc rfl); clear hc
    go_wp2_with fail
    try simp only [hK]
    refine (knew_sl _ H1.out).mono ?_
    rintro e w3 ⟨b1, g1, rfl, q3, h3⟩
    have H3 := Lib.hid h3; have Q3 := Lib.hid (Q1.out.trans q3); clear h3 q3
    go_wp2_with fail
    refine (knew_sl _ H3.out).mono ?_
    rintro e w4 ⟨b2, g2, rfl, q4, h4⟩
    have H4 := Lib.hid (h4.eq (by ac_rfl : _ = kbl b1 g1 * (gld g1 Gld.zero * (lay w * (kbl b2 g2 * (gld g2 Gld.zero * HP.emp)))))); have Q4 := Lib.hid (Q3.out.trans q4); clear h4 q4
    go_wp2_with fail
    refine (kdo_sl b1 g1 Gld.zero _ (l.take K) _ H4.out good_zero (fun W h => lay_row HR2.out h) (fun s hs => HC.out s (List.mem_of_mem_take hs))).mono ?_
    rintro e w5 ⟨T1, c1, a1, G1, rfl, q5, h5, hg5, x5, y5, z5⟩
    obtain ⟨rfl, rfl, hT1, hG1⟩ := x5 (by rw [List.length_take]; omega) (brk_take HB.out K)
    have HT1 := Lib.hid hT1; have HG1 := Lib.hid hG1
    clear y5 z5 hT1 hG1
    obtain ⟨p1, hp1⟩ : ∃ p, w5.heap.size = p := ⟨_, rfl⟩
    have H5 := Lib.hid (h5.boxB (ty := 31) (cs := [.int .i64 0, .int .i64 0]) hp1); have Q5 := Lib.hid ((Q4.out.trans q5).alloc (.cells #[.int .i64 0, .int .i64 0] 31)); have HG5 := Lib.hid hg5
    clear h5 q5 hg5
    go_wp2_with (refine wpList_store_whole rfl 31 _ _ rfl p1 [.int .i64 0, .int .i64 0] rfl rfl H5.out.bl rfl (by kernel_rfl) (by simp [Ones, Value.oneCell']) ?_; intro w6 h1' h2' h3'; have H6 := Lib.hid (H5.out.grown h2' h1'); have Q6 := Lib.hid (Q5.out.trans (Quiet.grown h2')); clear h1' h2' h3')
    refine (kdo_sl b2 g2 Gld.zero _ l _ (H6.out.eq (by ac_rfl : _ = kbl b2 g2 * (gld g2 Gld.zero * (lay w * (bl p1 31 [.int .i64 0, .int .i64 0] * (kbl b1 g1 * (gld g1 G1 * HP.emp))))))) good_zero (fun W h => lay_row HR1.out h) HC.out).mono ?_
    rintro e w7 ⟨T2, c2, a2, G2, rfl, q7, h7, hg7, x7, y7, z7⟩
    obtain ⟨rfl, rfl, hT2, hG2⟩ := x7 hlen HB.out
    have HT2 := Lib.hid hT2; have HG2 := Lib.hid hG2
    clear y7 z7 hT2 hG2 hg7
    obtain ⟨p2, hp2⟩ : ∃ p, w7.heap.size = p := ⟨_, rfl⟩
    have H7 := Lib.hid (h7.boxB (ty := 31) (cs := [.int .i64 0, .int .i64 0]) hp2); have Q7 := Lib.hid ((Q6.out.trans q7).alloc (.cells #[.int .i64 0, .int .i64 0] 31))
    clear h7 q7
    go_wp2_with (refine wpList_store_whole rfl 31 _ _ rfl p2 [.int .i64 0, .int .i64 0] rfl rfl H7.out.bl rfl (by kernel_rfl) (by simp [Ones, Value.oneCell']) ?_; intro w8 h1' h2' h3'; have H8 := Lib.hid (H7.out.grown h2' h1'); have Q8 := Lib.hid (Q7.out.trans (Quiet.grown h2')); clear h1' h2' h3')
    refine (kdo_sl b1 g1 G1 _ (l.drop K) _ (H8.out.eq (by ac_rfl : _ = kbl b1 g1 * (gld g1 G1 * (lay w * (bl p1 31 [.int .i64 0, .int .i64 0] * (bl p2 31 [.int .i64 0, .int .i64 0] * (kbl b2 g2 * (gld g2 G2 * HP.emp)))))))) HG5.out (fun W h => lay_row HR3.out h) (fun s hs => HC.out s (List.mem_of_mem_drop hs))).mono ?_
    rintro e w9 ⟨T3, c3, a3, G3, rfl, q9, h9, hg9, x9, y9, z9⟩
    obtain ⟨rfl, rfl, hT3, hG3⟩ := x9 (by rw [List.length_drop]; omega) (brk_drop HB.out K)
    have HT3 := Lib.hid hT3; have HG3 := Lib.hid hG3
    clear y9 z9 hT3 hG3 hg9
    obtain ⟨p3, hp3⟩ : ∃ p, w9.heap.size = p := ⟨_, rfl⟩
    have H9 := Lib.hid (h9.boxB (ty := 31) (cs := [.int .i64 0, .int .i64 0]) hp3); have Q9 := Lib.hid ((Q8.out.trans q9).alloc (.cells #[.int .i64 0, .int .i64 0] 31))
    clear h9 q9
    go_wp2_with (refine wpList_store_whole rfl 31 _ _ rfl p3 [.int .i64 0, .int .i64 0] rfl rfl H9.out.bl rfl (by kernel_rfl) (by simp [Ones, Value.oneCell']) ?_; intro wa h1' h2' h3'; have HA := Lib.hid ((H9.out.grown h2' h1').eq (by ac_rfl : _ = bl p1 31 [.int .i64 0, .int .i64 0] * (bl p2 31 [.int .i64 0, .int .i64 0] * (bl p3 31 [.int .i64 0, .int .i64 0] * (lay w * (kbl b1 g1 * (gld g1 G3 * (kbl b2 g2 * (gld g2 G2 * HP.emp))))))))); have QA := Lib.hid (Q9.out.trans (Quiet.grown h2')); have y1 := HA.out.bl.cell 0 _ rfl; have y2 := HA.out.two.bl.cell 0 _ rfl; have y3 := HA.out.three.bl.cell 0 _ rfl; clear h1' h2' h3')
    refine (knew_sl _ HA.out).mono ?_
    rintro e wb ⟨b3, g3, rfl, qb, hb⟩
    have HB3 := Lib.hid (hb.eq (by ac_rfl : _ = kbl b3 g3 * (gld g3 Gld.zero * (lay w * (bl p1 31 [.int .i64 0, .int .i64 0] * (bl p2 31 [.int .i64 0, .int .i64 0] * (bl p3 31 [.int .i64 0, .int .i64 0] * (kbl b1 g1 * (gld g1 G3 * (kbl b2 g2 * (gld g2 G2 * HP.emp))))))))))); have QB := Lib.hid (QA.out.trans qb); clear hb qb y1 y2 y3
    go_wp2_with fail
    refine (kdo_sl b3 g3 Gld.zero _ l _ HB3.out good_zero (fun W h => lay_row HR1.out h) HC.out).mono ?_
    rintro e wc ⟨T4, c4, a4, G4, rfl, qc, hc, hgc, xc, yc, zc⟩
    obtain ⟨rfl, rfl, hT4, hG4⟩ := xc hlen HB.out
    clear yc zc hG4 hgc
    obtain ⟨p4, hp4⟩ : ∃ p, wc.heap.size = p := ⟨_, rfl⟩
    have HC4 := Lib.hid (hc.boxB (ty := 31) (cs := [.int .i64 0, .int .i64 0]) hp4); have QC4 := Lib.hid ((QB.out.trans qc).alloc (.cells #[.int .i64 0, .int .i64 0] 31))
    clear hc qc
    have e1 : T1 ++ T3 = T2 := by
      rw [HT1.out, HT2.out, HT3.out, HG1.out]
      conv => rhs; rw [← List.take_append_drop K l, tells_append]
    have e2 : T4 = T2 := by rw [hT4, HT2.out]
    have l1 : T1.length ≤ 50000 * 150 := by
      have := tells_len (g := Gld.zero) (l.take K) good_zero
      rw [← HT1.out, List.length_take] at this
      omega
    have l3 : T3.length ≤ 50000 * 150 := by
      have := tells_len (l.drop K) HG5.out
      rw [← HT3.out, List.length_drop] at this
      omega
    clear hT4
    subst e2
    obtain ⟨S1, hS1⟩ : ∃ S, strOf T1 = S := ⟨_, rfl⟩
    obtain ⟨S2, hS2⟩ : ∃ S, strOf T4 = S := ⟨_, rfl⟩
    obtain ⟨S3, hS3⟩ : ∃ S, strOf T3 = S := ⟨_, rfl⟩
    have s1 : S1.size ≤ 7500000 := by rw [← hS1, strOf_size]; exact l1
    have s3 : S3.size ≤ 7500000 := by rw [← hS3, strOf_size]; exact l3
    have s2 : S1 ++ S3 = S2 := by rw [← hS1, ← hS3, ← hS2, strOf_append, e1]
    rw [hS1, hS2, hS3]
    clear e1 l1 l3 hS1 hS2 hS3
    go_wp2_with (first | (refine wpList_store_whole rfl 31 _ _ rfl p4 [.int .i64 0, .int .i64 0] rfl rfl HC4.out.bl rfl (by kernel_rfl) (by simp [Ones, Value.oneCell']) ?_; intro wd h1' h2' h3'; have HD := Lib.hid ((HC4.out.grown h2' h1').eq (by ac_rfl : _ = bl p1 31 [.int .i64 0, .int .i64 0] * (bl p3 31 [.int .i64 0, .int .i64 0] * (lay w * (bl p4 31 [.int .i64 0, .int .i64 0] * (bl p2 31 [.int .i64 0, .int .i64 0] * (kbl b3 g3 * (gld g3 G4 * (kbl b1 g1 * (gld g1 G3 * (kbl b2 g2 * (gld g2 G2 * HP.emp)))))))))))); have QD := Lib.hid (QC4.out.trans (Quiet.grown h2')); have y1 := HD.out.bl.cell 0 _ rfl; have y3 := HD.out.two.bl.cell 0 _ rfl; clear h1' h2' h3'))
    go_ret
    exact ⟨by simp [s2], (lay_of HD.out.three).left.toBelow' QD.out⟩
set_option maxHeartbeats 8000000 in
theorem joins_nil0_ok (a : Addr) (l : List (List UInt8)) (cut : Int) (K : Nat) (w : World) (hl : Laid w) (hk1 : l = []) (hk2 : K = 0) (hb : brk l = none) (hK : wrap64 ((IntKind.u64.wrap cut).tmod ((l.length : Int) + 1)) = (K : Int)) (hlen : l.length ≤ 150) (hz : ∀ s ∈ l, s.length ≤ 140737488351232) (h1 : RowAt w (.slice (some a) 0 0) l.length (svls l)) (h2 : RowAt w (.slice (some a) 0 0) (l.take K).length (svls (l.take K))) (h3 : RowAt w (.slice (some a) 0 0) (l.drop K).length (svls (l.drop K))) :
    Calls Tryz.prog 4 #[(.slice (some a) 0 0), .int .i64 cut] w fun e w' => e = .returned (.bool true) ∧ Below w.heap.size w w' := by
  have HL := Lib.hid hl; have HZ := Lib.hid hz; have HR1 := Lib.hid h1; have HR2 := Lib.hid h2; have HR3 := Lib.hid h3
  clear hl hz h1 h2 h3
  have hn1 : ¬ (150 : Int) < (l.length : Int) := by omega
  have hw1 : IntKind.u64.wrap ((l.length : Int) + 1) = (l.length : Int) + 1 := by unfold IntKind.wrap; simp [IntKind.bits, IntKind.signed]; omega
  have hw2 : ¬ ((l.length : Int) + 1) = 0 := by omega
  have HB := Lib.hid hb; clear hb
  go_enter Tryz.func4, Tryz.ntmps4
  go_wp2_with fail
  refine (deskBegun_any _ HL.out).mono ?_
  rintro e w1 ⟨rfl, hb1⟩
  have H1 := Lib.hid ((lay_start HL.out).below hb1)
  have Q1 := Lib.hid (Quiet.below hb1); clear hb1
  go_wp2_with fail
  refine (slow_sl _ l _ (lay_row HR1.out H1.out) (by omega) HZ.out).mono ?_
  rintro e w2 ⟨c, rfl, rfl, hc⟩
  cases c with
  | true =>
    go_wp2
    go_ret
    exact ⟨rfl, (lay_of H1.out).left.toBelow' Q1.out⟩
  | false =>
    have HC := Lib.hid (hc rfl); clear hc
    go_wp2_with fail
    try simp only [hK]
    refine (knew_sl _ H1.out).mono ?_
    rintro e w3 ⟨b1, g1, rfl, q3, h3⟩
    have H3 := Lib.hid h3; have Q3 := Lib.hid (Q1.out.trans q3); clear h3 q3
    go_wp2_with fail
    refine (knew_sl _ H3.out).mono ?_
    rintro e w4 ⟨b2, g2, rfl, q4, h4⟩
    have H4 := Lib.hid (h4.eq (by ac_rfl : _ = kbl b1 g1 * (gld g1 Gld.zero * (lay w * (kbl b2 g2 * (gld g2 Gld.zero * HP.emp)))))); have Q4 := Lib.hid (Q3.out.trans q4); clear h4 q4
    go_wp2_with fail
    refine (kdo_sl b1 g1 Gld.zero _ (l.take K) _ H4.out good_zero (fun W h => lay_row HR2.out h) (fun s hs => HC.out s (List.mem_of_mem_take hs))).mono ?_
    rintro e w5 ⟨T1, c1, a1, G1, rfl, q5, h5, hg5, x5, y5, z5⟩
    obtain ⟨rfl, rfl, hT1, hG1⟩ := x5 (by rw [List.length_take]; omega) (brk_take HB.out K)
    have HT1 := Lib.hid hT1; have HG1 := Lib.hid hG1
    clear y5 z5 hT1 hG1
    obtain ⟨p1, hp1⟩ : ∃ p, w5.heap.size = p := ⟨_, rfl⟩
    have H5 := Lib.hid (h5.boxB (ty := 31) (cs := [.int .i64 0, .int .i64 0]) hp1); have Q5 := Lib.hid ((Q4.out.trans q5).alloc (.cells #[.int .i64 0, .int .i64 0] 31)); have HG5 := Lib.hid hg5
    clear h5 q5 hg5
    go_wp2_with (refine wpList_store_whole rfl 31 _ _ rfl p1 [.int .i64 0, .int .i64 0] rfl rfl H5.out.bl rfl (by kernel_rfl) (by simp [Ones, Value.oneCell']) ?_; intro w6 h1' h2' h3'; have H6 := Lib.hid (H5.out.grown h2' h1'); have Q6 := Lib.hid (Q5.out.trans (Quiet.grown h2')); clear h1' h2' h3')
    refine (kdo_sl b2 g2 Gld.zero _ l _ (H6.out.eq (by ac_rfl : _ = kbl b2 g2 * (gld g2 Gld.zero * (lay w * (bl p1 31 [.int .i64 0, .int .i64 0] * (kbl b1 g1 * (gld g1 G1 * HP.emp))))))) good_zero (fun W h => lay_row HR1.out h) HC.out).mono ?_
    rintro e w7 ⟨T2, c2, a2, G2, rfl, q7, h7, hg7, x7, y7, z7⟩
    obtain ⟨rfl, rfl, hT2, hG2⟩ := x7 hlen HB.out
    have HT2 := Lib.hid hT2; have HG2 := Lib.hid hG2
    clear y7 z7 hT2 hG2 hg7
    obtain ⟨p2, hp2⟩ : ∃ p, w7.heap.size = p := ⟨_, rfl⟩
    have H7 := Lib.hid (h7.boxB (ty := 31) (cs := [.int .i64 0, .int .i64 0]) hp2); have Q7 := Lib.hid ((Q6.out.trans q7).alloc (.cells #[.int .i64 0, .int .i64 0] 31))
    clear h7 q7
    go_wp2_with (refine wpList_store_whole rfl 31 _ _ rfl p2 [.int .i64 0, .int .i64 0] rfl rfl H7.out.bl rfl (by kernel_rfl) (by simp [Ones, Value.oneCell']) ?_; intro w8 h1' h2' h3'; have H8 := Lib.hid (H7.out.grown h2' h1'); have Q8 := Lib.hid (Q7.out.trans (Quiet.grown h2')); clear h1' h2' h3')
    refine (kdo_sl b1 g1 G1 _ (l.drop K) _ (H8.out.eq (by ac_rfl : _ = kbl b1 g1 * (gld g1 G1 * (lay w * (bl p1 31 [.int .i64 0, .int .i64 0] * (bl p2 31 [.int .i64 0, .int .i64 0] * (kbl b2 g2 * (gld g2 G2 * HP.emp)))))))) HG5.out (fun W h => lay_row HR3.out h) (fun s hs => HC.out s (List.mem_of_mem_drop hs))).mono ?_
    rintro e w9 ⟨T3, c3, a3, G3, rfl, q9, h9, hg9, x9, y9, z9⟩
    obtain ⟨rfl, rfl, hT3, hG3⟩ := x9 (by rw [List.length_drop]; omega) (brk_drop HB.out K)
    have HT3 := Lib.hid hT3; have HG3 := Lib.hid hG3
    clear y9 z9 hT3 hG3 hg9
    obtain ⟨p3, hp3⟩ : ∃ p, w9.heap.size = p := ⟨_, rfl⟩
    have H9 := Lib.hid (h9.boxB (ty := 31) (cs := [.int .i64 0, .int .i64 0]) hp3); have Q9 := Lib.hid ((Q8.out.trans q9).alloc (.cells #[.int .i64 0, .int .i64 0] 31))
    clear h9 q9
    go_wp2_with (refine wpList_store_whole rfl 31 _ _ rfl p3 [.int .i64 0, .int .i64 0] rfl rfl H9.out.bl rfl (by kernel_rfl) (by simp [Ones, Value.oneCell']) ?_; intro wa h1' h2' h3'; have HA := Lib.hid ((H9.out.grown h2' h1').eq (by ac_rfl : _ = bl p1 31 [.int .i64 0, .int .i64 0] * (bl p2 31 [.int .i64 0, .int .i64 0] * (bl p3 31 [.int .i64 0, .int .i64 0] * (lay w * (kbl b1 g1 * (gld g1 G3 * (kbl b2 g2 * (gld g2 G2 * HP.emp))))))))); have QA := Lib.hid (Q9.out.trans (Quiet.grown h2')); have y1 := HA.out.bl.cell 0 _ rfl; have y2 := HA.out.two.bl.cell 0 _ rfl; have y3 := HA.out.three.bl.cell 0 _ rfl; clear h1' h2' h3')
    refine (knew_sl _ HA.out).mono ?_
    rintro e wb ⟨b3, g3, rfl, qb, hb⟩
    have HB3 := Lib.hid (hb.eq (by ac_rfl : _ = kbl b3 g3 * (gld g3 Gld.zero * (lay w * (bl p1 31 [.int .i64 0, .int .i64 0] * (bl p2 31 [.int .i64 0, .int .i64 0] * (bl p3 31 [.int .i64 0, .int .i64 0] * (kbl b1 g1 * (gld g1 G3 * (kbl b2 g2 * (gld g2 G2 * HP.emp))))))))))); have QB := Lib.hid (QA.out.trans qb); clear hb qb y1 y2 y3
    go_wp2_with fail
    refine (kdo_sl b3 g3 Gld.zero _ l _ HB3.out good_zero (fun W h => lay_row HR1.out h) HC.out).mono ?_
    rintro e wc ⟨T4, c4, a4, G4, rfl, qc, hc, hgc, xc, yc, zc⟩
    obtain ⟨rfl, rfl, hT4, hG4⟩ := xc hlen HB.out
    clear yc zc hG4 hgc
    obtain ⟨p4, hp4⟩ : ∃ p, wc.heap.size = p := ⟨_, rfl⟩
    have HC4 := Lib.hid (hc.boxB (ty := 31) (cs := [.int .i64 0, .int .i64 0]) hp4); have QC4 := Lib.hid ((QB.out.trans qc).alloc (.cells #[.int .i64 0, .int .i64 0] 31))
    clear hc qc
    have e1 : T1 ++ T3 = T2 := by
      rw [HT1.out, HT2.out, HT3.out, HG1.out]
      conv => rhs; rw [← List.take_append_drop K l, tells_append]
    have e2 : T4 = T2 := by rw [hT4, HT2.out]
    have l1 : T1.length ≤ 50000 * 150 := by
      have := tells_len (g := Gld.zero) (l.take K) good_zero
      rw [← HT1.out, List.length_take] at this
      omega
    have l3 : T3.length ≤ 50000 * 150 := by
      have := tells_len (l.drop K) HG5.out
      rw [← HT3.out, List.length_drop] at this
      omega
    clear hT4
    subst e2
    obtain ⟨S1, hS1⟩ : ∃ S, strOf T1 = S := ⟨_, rfl⟩
    obtain ⟨S2, hS2⟩ : ∃ S, strOf T4 = S := ⟨_, rfl⟩
    obtain ⟨S3, hS3⟩ : ∃ S, strOf T3 = S := ⟨_, rfl⟩
    have s1 : S1.size ≤ 7500000 := by rw [← hS1, strOf_size]; exact l1
    have s3 : S3.size ≤ 7500000 := by rw [← hS3, strOf_size]; exact l3
    have s2 : S1 ++ S3 = S2 := by rw [← hS1, ← hS3, ← hS2, strOf_append, e1]
    rw [hS1, hS2, hS3]
    clear e1 l1 l3 hS1 hS2 hS3
    go_wp2_with (first | (refine wpList_store_whole rfl 31 _ _ rfl p4 [.int .i64 0, .int .i64 0] rfl rfl HC4.out.bl rfl (by kernel_rfl) (by simp [Ones, Value.oneCell']) ?_; intro wd h1' h2' h3'; have HD := Lib.hid ((HC4.out.grown h2' h1').eq (by ac_rfl : _ = bl p1 31 [.int .i64 0, .int .i64 0] * (bl p3 31 [.int .i64 0, .int .i64 0] * (lay w * (bl p4 31 [.int .i64 0, .int .i64 0] * (bl p2 31 [.int .i64 0, .int .i64 0] * (kbl b3 g3 * (gld g3 G4 * (kbl b1 g1 * (gld g1 G3 * (kbl b2 g2 * (gld g2 G2 * HP.emp)))))))))))); have QD := Lib.hid (QC4.out.trans (Quiet.grown h2')); have y1 := HD.out.bl.cell 0 _ rfl; have y3 := HD.out.two.bl.cell 0 _ rfl; clear h1' h2' h3'))
    go_ret
    exact ⟨by simp [s2], (lay_of HD.out.three).left.toBelow' QD.out⟩
set_option maxHeartbeats 4000000 in
theorem joins_long (v : Value) (l : List (List UInt8)) (cut : Int) (w : World) (hl : Laid w) (hlen : 150 < l.length) (h1 : RowAt w v l.length (svls l)) :
    Calls Tryz.prog 4 #[v, .int .i64 cut] w fun e w' => e = .returned (.bool true) ∧ Below w.heap.size w w' := by
  obtain ⟨a, cc, rfl, c1, c2⟩ := h1.shape
  have HL := Lib.hid hl
  clear hl h1
  have hn1 : (150 : Int) < (l.length : Int) := by omega
  go_enter Tryz.func4, Tryz.ntmps4
  go_wp2_with fail
  refine (deskBegun_any _ HL.out).mono ?_
  rintro e w1 ⟨rfl, hb1⟩
  go_wp2
  go_ret
  exact ⟨rfl, hb1⟩
theorem deskJoins_any (v : Value) (cut : Int) (l : List (List UInt8)) (w : World) (hl : Laid w) (h1 : RowAt w v l.length (svls l)) (hz : ∀ s ∈ l, s.length ≤ 140737488351232) :
    Calls Tryz.prog 4 #[v, .int .i64 cut] w fun e w' => e = .returned (.bool true) ∧ Below w.heap.size w w' := by
  by_cases hlen : 150 < l.length
  · exact joins_long v l cut w hl hlen h1
  obtain ⟨K, hKM, hK⟩ := uidx cut (l.length + 1) (by omega) (by omega)
  have hK' : wrap64 ((IntKind.u64.wrap cut).tmod ((l.length : Int) + 1)) = (K : Int) := hK
  clear hK
  have hlen' : l.length ≤ 150 := by omega
  by_cases hl0 : l = []
  · subst hl0
    obtain rfl : K = 0 := by simp at hKM; omega
    have t1 : ([] : List (List UInt8)).take 0 = [] := rfl
    have t2 : ([] : List (List UInt8)).drop 0 = [] := rfl
    obtain ⟨a, cc, rfl, d1, d2, d3, d4⟩ := h1
    rcases a with _ | a
    · obtain rfl := d3 rfl
      have hr : RowAt w (.slice none 0 0) ([] : List (List UInt8)).length (svls []) := row_nil (Nat.zero_le _) (fun _ => rfl)
      cases hb : brk [] with
      | none => exact joins_none_ok [] cut 0 w hl rfl rfl hb hK' hlen' hz hr hr hr
      | some i => cases hb
    · have hb : brk [] = none := rfl
      by_cases hc : cc = 0
      · subst hc
        have hr : RowAt w (.slice (some a) 0 0) ([] : List (List UInt8)).length (svls []) := row_nil (Nat.zero_le _) (fun e => by cases e)
        exact joins_nil0_ok a [] cut 0 w hl rfl rfl hb hK' hlen' hz hr hr hr
      · have hr : ∀ a : Addr, RowAt w (.slice (some a) 0 cc) ([] : List (List UInt8)).length (svls []) := fun a => row_nil d2 (fun e => by cases e)
        exact joins_nil_ok a cc [] cut 0 w hl (by unfold maxLen at d2; omega) (by omega) rfl rfl hb hK' hlen' hz (hr _) (hr _) (hr _)
  · obtain ⟨g, off, cc, rfl, d1, d2, -⟩ := h1.get (fun e => hl0 (List.length_eq_zero_iff.1 e))
    have hKl : K ≤ l.length := by omega
    by_cases hc : K < cc
    · have r2 := row_take h1 rfl hKl
      have r3 := row_drop h1 rfl hKl
      cases hb : brk l with
      | none => exact joins_mid_ok g off cc l cut K w hl d1 d2 hKl hc hb hK' hlen' hz h1 r2 r3
      | some i => exact joins_mid_bad g off cc l cut K w hl d1 d2 hKl hc ⟨i, hb⟩ hK' hlen' hz h1 r2 r3
    · obtain rfl : cc = l.length := by omega
      obtain rfl : K = l.length := by omega
      have r2 := row_take h1 rfl hKl
      have r3 : RowAt w (.slice (some ⟨g, off, none⟩) 0 0) (l.drop l.length).length (svls (l.drop l.length)) := by rw [List.drop_length]; exact row_nil (Nat.zero_le _) (fun e => by cases e)
      cases hb : brk l with
      | none => exact joins_end_ok g off l cut l.length w hl d2 rfl hb hK' hlen' hz h1 r2 r3
      | some i => exact joins_end_bad g off l cut l.length w hl d2 rfl ⟨i, hb⟩ hK' hlen' hz h1 r2 r3
end Go.Proofs.YtfihmpkkpgmdhaaGreatDoor
