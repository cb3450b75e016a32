/-
  CodecCut, walked: what is cut is none.
-/
import Derived.Test.YtfihmpkkpgmdhaaCodecS
import Derived.Test.YtfihmpkkpgmdhaaPlain7
import Derived.Test.YtfihmpkkpgmdhaaView2
import Derived.Test.YtfihmpkkpgmdhaaUidx
import Derived.Test.YtfihmpkkpgmdhaaLex
namespace Go.Proofs.Ytfihmpkkpgmdhaa
set_option linter.unusedSimpArgs false
set_option linter.unusedVariables false
open Go.RowKit
/-- The first ones of records. -/
theorem recsTake {w : World} {a : Option Addr} {n c : Nat} {l : List Rec} (h : RowAt w (.slice a n c) l.length (rvs l)) {q : Nat} (hq : q ≤ l.length) : RowAt w (.slice a q c) (l.take q).length (rvs (l.take q)) := by
  obtain ⟨a', c', e, h1, h2, h3, h4⟩ := h
  simp only [Value.slice.injEq] at e
  obtain ⟨rfl, _, rfl⟩ := e
  have hl : (l.take q).length = q := by simp; omega
  refine ⟨a, c, by rw [hl], by omega, h2, h3, fun hne => ?_⟩
  obtain ⟨g, off, rfl, h5⟩ := h4 (by omega)
  refine ⟨g, off, rfl, fun j u hu => h5 j u ?_⟩
  have e : rvs l = rvs (l.take q) ++ rvs (l.drop q) := by rw [← rvs_append, List.take_append_drop]
  rw [e, List.getElem?_append_left (List.getElem?_eq_some_iff.1 hu).1]
  exact hu
set_option maxRecDepth 100000 in
set_option maxHeartbeats 8000000 in
theorem codecCut_any (v : Value) (cut : Int) (L : List Rec) (w : World) (hv : (∀ r ∈ L, ∀ n ∈ r.ints, I64' n) ∧ RowAt w v L.length (rvs L)) (ha : I64' cut) :
    Calls Try.prog 9 #[v, .int .i64 cut] w fun e w' => e = .returned (.bool true) ∧ Below w.heap.size w w' := by
  obtain ⟨a, cc, rfl, c1, c2⟩ := hv.2.shape
  have HV := Lib.hid hv; clear hv
  have HA := Lib.hid ha; clear ha
  go_enter Try.func9, Try.ntmps9
  go_wp2_with fail
  refine (codecBegun_any _).mono ?_
  rintro e w1 ⟨rfl, hb1⟩
  have H1 := Lib.hid ((Holds.old (w := w)).below hb1)
  have Q1 := Lib.hid (Quiet.below hb1); clear hb1
  by_cases hlen : 100 < L.length
  · go_wp2
    go_ret
    exact ⟨rfl, H1.out.toBelow' Q1.out⟩
  · go_wp2
    go_loopw [5, 6, 7, 8, 9] (fun b i_ i _ _ wr => ∃ (acc : List Rec) (q : Nat), q ≤ L.length ∧ i = .int .i64 q ∧ acc.length ≤ q ∧ Rising 0 acc ∧ Holds wr (ownb b (encAll acc) * (recs i_ acc * old w)) ∧ Quiet w wr) (fun _ _ i _ _ _ => L.length - (intOf i).toNat)
    case atStart => exact ⟨[], 0, by omega, rfl, by simp, trivial, (H1.out.nilR).nilB, Q1.out⟩
    case round =>
      obtain ⟨acc, q, hq, rfl, hac, hri, hh, hqu⟩ := hrel
      have HR := Lib.hid hri; have HH := Lib.hid hh; have HQ := Lib.hid hqu; clear hri hh hqu
      by_cases hlt : q < L.length
      · obtain ⟨r, hr⟩ : ∃ r, L[q]? = some r := ⟨_, List.getElem?_eq_getElem hlt⟩
        obtain ⟨g, off, c', e, _, _, hc0⟩ := HV.out.2.get (by omega)
        simp only [Value.slice.injEq] at e
        obtain ⟨rfl, _, rfl⟩ := e
        obtain ⟨p, ⟨c, n, j, t, k, m⟩⟩ := r
        have hca : ∀ (W : World) (A : HP), Holds W (A * old w) → W.cell? ⟨g, off + q * 7, none⟩ = some (.int .i64 p) ∧ W.cell? ⟨g, off + q * 7 + 1, none⟩ = some (.int .i64 c) ∧ W.cell? ⟨g, off + q * 7 + 2, none⟩ = some (.int .i64 n) ∧ W.cell? ⟨g, off + q * 7 + 3, none⟩ = some (.int .i64 j) ∧ W.cell? ⟨g, off + q * 7 + 4, none⟩ = some (.int .i64 t) ∧ W.cell? ⟨g, off + q * 7 + 5, none⟩ = some (.int .i64 k) ∧ W.cell? ⟨g, off + q * 7 + 6, none⟩ = some (.int .i64 m) := by
          intro W A hW
          obtain ⟨g', off', c', e, _, _, hc⟩ := (HV.out.2.old hW).get (by omega)
          simp only [Value.slice.injEq, Option.some.injEq, Addr.mk.injEq, and_true] at e
          obtain ⟨⟨rfl, rfl⟩, _, rfl⟩ := e
          exact ⟨rvs_cell hc hr 0 _ (by omega) rfl, rvs_cell hc hr 1 _ (by omega) rfl, rvs_cell hc hr 2 _ (by omega) rfl, rvs_cell hc hr 3 _ (by omega) rfl, rvs_cell hc hr 4 _ (by omega) rfl, rvs_cell hc hr 5 _ (by omega) rfl, rvs_cell hc hr 6 _ (by omega) rfl⟩
        have HCA := Lib.hid hca
        obtain ⟨a0, a1, a2, a3, a4, a5, a6⟩ := hca _ _ HH.out.right
        clear hc0 hca hr
        obtain ⟨C, hC⟩ : ∃ C, chkR ⟨p, ⟨c, n, j, t, k, m⟩⟩ = C := ⟨_, rfl⟩
        have HC := Lib.hid hC; clear hC
        go_wp2_with fail
        refine (enc_sl p c n j t k m _ HH.out).mono ?_
        rw [HC.out]
        rintro e w2 ⟨v2, rfl, q2, h2⟩
        obtain ⟨a0, a1, a2, a3, a4, a5, a6⟩ := HCA.out _ _ h2.right.right
        have HH2 := Lib.hid h2; have HQ2 := Lib.hid q2; clear h2 q2
        by_cases h0 : C = 0
        · subst h0
          have HHold := HH2
          clear HH2
          have HH2 : Hid (Holds w2 (ownb v2 (encB ⟨p, ⟨c, n, j, t, k, m⟩⟩) * (ownb u5 (encAll acc) * (recs u6 acc * old w)))) := by
            have := HHold.out
            simp only [if_true] at this
            exact Lib.hid this
          clear HHold
          obtain rfl | ⟨init, r', rfl⟩ : acc = [] ∨ ∃ init r', acc = init ++ [r'] := by
            rcases List.eq_nil_or_concat acc with h | ⟨i, r, h⟩
            · exact .inl h
            · exact .inr ⟨i, r, by rw [h, List.concat_eq_append]⟩
          · obtain ⟨a2', cap2, rfl, e1, e2⟩ := HH2.out.right.right.row.shape
            simp only [List.length_nil] at *
            have HLE : lastE 0 [] ≤ p := by have := (chkR_range HC.out).1.1; simp only [lastE]; dsimp only at this; omega
            have HLE := HLE
            go_wp2_with fail
            go_quiet (fail)
            go_wp2_with (first | (at_builtin; refine wpList_append_ob rfl (.tmp 52) (.tmp 53) rfl rfl rfl (HH2.out.two.drewN _) ((HH2.out.drewN _).ownb.bytes) (by rw [encAll_len, encB_len]; first | omega | (simp; omega) | simp) ?_; intro v3 w3 h3 q3; obtain ⟨a0, a1, a2, a3, a4, a5, a6⟩ := HCA.out _ _ h3.right.right; have H3 := Lib.hid h3; have Q3 := Lib.hid q3; clear h3 q3) | (at_builtin; refine wpList_append_recs (r := ⟨p, ⟨c, n, j, t, k, m⟩⟩) rfl (.tmp 55) (.tmp 60) rfl rfl rfl ((H3.out.three).alloc _) (RowAt.box (cs := rcells ⟨p, ⟨c, n, j, t, k, m⟩⟩) (by omega) rfl) (by first | omega | (simp; omega) | simp) ?_; intro v4 w4 h4 q4; have H4 := Lib.hid h4; have Q4 := Lib.hid q4; clear h4 q4))
            go_roundw
            case rel => exact ⟨[] ++ [⟨p, ⟨c, n, j, t, k, m⟩⟩], q + 1, by omega, by go_num, by simp <;> omega, HR.out.snoc ⟨p, ⟨c, n, j, t, k, m⟩⟩ HC.out HLE, by rw [encAll_append]; simpa [encAll] using H4.out.three.right.two, (((HQ.out.trans HQ2.out).drewN _).trans Q3.out).alloc _ |>.trans Q4.out⟩
            case measure => simp [intOf]; omega
          · have hlen2 : (init ++ [r']).length = init.length + 1 := by simp
            have hll : init.length ≤ 100 := by omega
            obtain ⟨g2, off2, cap2, hv2, e1, e2, e3⟩ := HH2.out.right.right.row.get (by simp)
            rw [hlen2] at hv2 e1
            subst hv2
            have e4 := rvs_cell e3 (i := init.length) (r := r') (by simp) 0 _ (by omega) rfl
            rw [Nat.add_zero] at e4
            have e5 : IntKind.i64.wrap (init.length : Int) = init.length := by rw [IntKind.wrap_i64]; omega
            have e6 : 0 < init.length + 1 := by omega
            have e7 : (0 : Int) < (init.length : Int) + 1 := by omega
            have e8 : (init.length : Int) < (init.length : Int) + 1 := by omega
            have E3 := Lib.hid e3; clear e3
            have e9 : ((init.length : Int) + 1 == 0) = false := by simp; omega
            by_cases h2 : r'.ep ≤ p
            · have HLE : lastE 0 (init ++ [r']) ≤ p := by rw [lastE_snoc]; exact h2
              have HLE' := Lib.hid HLE; clear HLE
              go_wp2_with fail
              refine wp_region_lex (fun W => W.cell? ⟨g2, off2 + init.length * 7, none⟩ = some (.int .i64 r'.ep) ∧ W.cell? ⟨g, off + q * 7, none⟩ = some (.int .i64 p)) [] (by kernel_rfl) (by kernel_rfl) (by constructor <;> go_simp) ?_
              repeat (first | (refine LexL.none (by rfl) ?_; (try simp only [Act.put, List.setIfInBounds_toArray, List.set_cons_zero, List.set_cons_succ])) | (refine LexL.still (v := ?_) (by rfl) ?_ ?_; rotate_left; (focus (intro W hW; (try dsimp only at hW); go_simp; (try (with_reducible rfl)); done)); (try simp only [Act.put, List.setIfInBounds_toArray, List.set_cons_zero, List.set_cons_succ])))
              refine LexL.done ?_
              go_wp2_with (first | (at_builtin; refine wpList_append_ob rfl (.tmp 52) (.tmp 53) rfl rfl rfl (HH2.out.two.drew) (HH2.out.drew.ownb.bytes) (by rw [encAll_len, encB_len]; first | omega | (simp; omega) | simp) ?_; intro v3 w3 h3 q3; obtain ⟨a0, a1, a2, a3, a4, a5, a6⟩ := HCA.out _ _ h3.right.right; have H3 := Lib.hid h3; have Q3 := Lib.hid q3; clear h3 q3) | (at_builtin; refine wpList_append_recs (r := ⟨p, ⟨c, n, j, t, k, m⟩⟩) rfl (.tmp 55) (.tmp 60) rfl rfl rfl ((H3.out.three).alloc _) (RowAt.box (cs := rcells ⟨p, ⟨c, n, j, t, k, m⟩⟩) (by omega) rfl) (by first | omega | (simp; omega) | simp) ?_; intro v4 w4 h4 q4; have H4 := Lib.hid h4; have Q4 := Lib.hid q4; clear h4 q4))
              go_roundw
              case rel => exact ⟨(init ++ [r']) ++ [⟨p, ⟨c, n, j, t, k, m⟩⟩], q + 1, by omega, by go_num, by simp <;> omega, HR.out.snoc ⟨p, ⟨c, n, j, t, k, m⟩⟩ HC.out HLE'.out, by rw [encAll_append]; simpa [encAll] using H4.out.three.right.two, ((HQ.out.trans HQ2.out).drew.trans Q3.out).alloc _ |>.trans Q4.out⟩
              case measure => simp [intOf]; omega
            · go_wp2_with fail
              refine wp_region_lex (fun W => W.cell? ⟨g2, off2 + init.length * 7, none⟩ = some (.int .i64 r'.ep) ∧ W.cell? ⟨g, off + q * 7, none⟩ = some (.int .i64 p)) [] (by kernel_rfl) (by kernel_rfl) (by constructor <;> go_simp) ?_
              repeat (first | (refine LexL.none (by rfl) ?_; (try simp only [Act.put, List.setIfInBounds_toArray, List.set_cons_zero, List.set_cons_succ])) | (refine LexL.still (v := ?_) (by rfl) ?_ ?_; rotate_left; (focus (intro W hW; (try dsimp only at hW); go_simp; (try (with_reducible rfl)); done)); (try simp only [Act.put, List.setIfInBounds_toArray, List.set_cons_zero, List.set_cons_succ])))
              refine LexL.done ?_
              go_wp2_with fail
              go_roundw
              case rel => exact ⟨init ++ [r'], q + 1, by omega, by go_num, by omega, HR.out, HH2.out.right.drew, (HQ.out.trans HQ2.out).drew⟩
              case measure => simp [intOf]; omega
        · have h0' : (C == 0) = false := by simpa using h0
          clear h0
          go_wp2_with fail
          go_quiet (fail)
          go_wp2_with fail
          go_roundw
          case rel => exact ⟨acc, q + 1, by omega, by go_num, by omega, HR.out, HH2.out.right.drewN _, (HQ.out.trans HQ2.out).drewN _⟩
          case measure => simp [intOf]; omega
      · obtain rfl : q = L.length := by omega
        obtain ⟨a2, c2', hv2, d1, d2, d0, _⟩ := HH.out.ownb.bytes
        obtain ⟨a3, c3', hv3, d3, d4, d5, _⟩ := HH.out.right.row
        subst hv2 hv3
        have d2 : c2' ≤ 9223372036854775807 := by unfold maxLen at d2; omega
        have d4 : c3' ≤ 9223372036854775807 := by unfold maxLen at d4; omega
        obtain ⟨K, hKM, hK⟩ := uidx cut ((encAll acc).length + 1) (by omega) (by rw [encAll_len]; omega)
        have hKM : K ≤ (encAll acc).length := by omega
        have hJ : K / 9 ≤ acc.length := by rw [encAll_len] at hKM; omega
        have hb1 := HH.out.ownb.bytes.take hKM
        have hb2 := recsTake HH.out.right.row hJ
        have hall : allB ((encAll acc).take K) = acc.take (K / 9) := allB_cut HR.out K (by rw [encAll_len] at hKM; omega)
        have HB1 := Lib.hid hb1; have HB2 := Lib.hid hb2; have HAL := Lib.hid hall; clear hb1 hb2 hall
        obtain ⟨J, hJ2⟩ : ∃ J, K / 9 = J := ⟨_, rfl⟩
        have hJ3 : (K : Int) / 9 = (J : Int) := by omega
        rw [hJ2] at HB2 HAL hJ
        have hml : (encAll acc).length ≤ 900 := by rw [encAll_len]; omega
        generalize (encAll acc).length = M at *
        have hK' : wrap64 ((IntKind.u64.wrap cut).tmod ((M : Int) + 1)) = (K : Int) := hK
        clear hK
        clear hJ2
        have hKc : (K : Int) ≤ (c2' : Int) := by omega
        have hJc : (J : Int) ≤ (c3' : Int) := by omega
        have hw0 : IntKind.i64.wrap 0 = 0 := rfl
        have hwJ : IntKind.i64.wrap (J : Int) = J := by rw [IntKind.wrap_i64]; omega
        rcases a2 with _ | a2
        · have hc0 : c2' = 0 := d0 rfl
          subst hc0
          obtain rfl : M = 0 := by omega
          obtain rfl : K = 0 := by omega
          have hj0 : J = 0 := by omega
          subst hj0
          rcases a3 with _ | a3
          · have hc0 : c3' = 0 := d5 rfl
            subst hc0
            go_wp2_with fail
            refine wp_region_lex (fun _ => True) [3, 8] (by kernel_rfl) (by kernel_rfl) trivial ?_
            repeat (first | (refine LexL.none (by rfl) ?_; (try simp only [Act.put, List.setIfInBounds_toArray, List.set_cons_zero, List.set_cons_succ])) | (refine LexL.still (v := ?_) (by rfl) ?_ ?_; rotate_left; (focus (intro W hW; (try dsimp only at hW); go_simp; (try (with_reducible rfl)); done)); (try simp only [Act.put, List.setIfInBounds_toArray, List.set_cons_zero, List.set_cons_succ])))
            refine LexL.call (f := 32) (args := #[.slice none 0 0]) (w1 := wr.drew) (by rfl) (by decide) (by go_simp) ?_
            refine (all_sl _ _ _ HB1.out.row.drew.bytes (by simp <;> omega) HH.out.drew).mono ?_
            rw [HAL.out]
            rintro e w3 ⟨v3, rfl, q3, h3⟩
            have H3 := Lib.hid h3; have Q3 := Lib.hid q3; clear h3 q3
            refine ⟨_, rfl, trivial, ?_⟩
            try simp only [Act.put, List.setIfInBounds_toArray, List.set_cons_zero, List.set_cons_succ]
            repeat (first | (refine LexL.none (by rfl) ?_; (try simp only [Act.put, List.setIfInBounds_toArray, List.set_cons_zero, List.set_cons_succ])) | (refine LexL.still (v := ?_) (by rfl) ?_ ?_; rotate_left; (focus (intro W hW; (try dsimp only at hW); go_simp; (try (with_reducible rfl)); done)); (try simp only [Act.put, List.setIfInBounds_toArray, List.set_cons_zero, List.set_cons_succ])))
            refine LexL.call (f := 31) (args := #[v3, .slice none 0 0]) (w1 := w3) (by rfl) (by decide) (by go_simp) ?_
            have hrow := recsTake H3.out.right.right.row hJ
            refine (same_recs _ _ _ _ H3.out.row hrow (by simp <;> omega)).mono ?_
            rintro e w4 ⟨rfl, nn, rfl⟩
            refine ⟨_, rfl, trivial, ?_⟩
            try simp only [Act.put, List.setIfInBounds_toArray, List.set_cons_zero, List.set_cons_succ]
            repeat (first | (refine LexL.none (by rfl) ?_; (try simp only [Act.put, List.setIfInBounds_toArray, List.set_cons_zero, List.set_cons_succ])) | (refine LexL.still (v := ?_) (by rfl) ?_ ?_; rotate_left; (focus (intro W hW; (try dsimp only at hW); go_simp; (try (with_reducible rfl)); done)); (try simp only [Act.put, List.setIfInBounds_toArray, List.set_cons_zero, List.set_cons_succ])))
            refine LexL.done ?_
            go_wp2
            go_ret
            exact ⟨rfl, (H3.out.drewN nn).right.right.right.toBelow' ((HQ.out.drew.trans Q3.out).drewN nn)⟩
          · have hA0 : acc.length = acc.length := rfl
            go_wp2_with fail
            refine wp_region_lex (fun _ => True) [3, 8] (by kernel_rfl) (by kernel_rfl) trivial ?_
            repeat (first | (refine LexL.none (by rfl) ?_; (try simp only [Act.put, List.setIfInBounds_toArray, List.set_cons_zero, List.set_cons_succ])) | (refine LexL.still (v := ?_) (by rfl) ?_ ?_; rotate_left; (focus (intro W hW; (try dsimp only at hW); go_simp; (try (with_reducible rfl)); done)); (try simp only [Act.put, List.setIfInBounds_toArray, List.set_cons_zero, List.set_cons_succ])))
            refine LexL.call (f := 32) (args := #[.slice none 0 0]) (w1 := wr.drew) (by rfl) (by decide) (by go_simp) ?_
            refine (all_sl _ _ _ HB1.out.row.drew.bytes (by simp <;> omega) HH.out.drew).mono ?_
            rw [HAL.out]
            rintro e w3 ⟨v3, rfl, q3, h3⟩
            have H3 := Lib.hid h3; have Q3 := Lib.hid q3; clear h3 q3
            refine ⟨_, rfl, trivial, ?_⟩
            try simp only [Act.put, List.setIfInBounds_toArray, List.set_cons_zero, List.set_cons_succ]
            repeat (first | (refine LexL.none (by rfl) ?_; (try simp only [Act.put, List.setIfInBounds_toArray, List.set_cons_zero, List.set_cons_succ])) | (refine LexL.still (v := ?_) (by rfl) ?_ ?_; rotate_left; (focus (intro W hW; (try dsimp only at hW); go_simp; (try (with_reducible rfl)); done)); (try simp only [Act.put, List.setIfInBounds_toArray, List.set_cons_zero, List.set_cons_succ])))
            refine LexL.call (f := 31) (args := #[v3, .slice (some a3) 0 c3']) (w1 := w3) (by rfl) (by decide) (by go_simp) ?_
            have hrow := recsTake H3.out.right.right.row hJ
            refine (same_recs _ _ _ _ H3.out.row hrow (by simp <;> omega)).mono ?_
            rintro e w4 ⟨rfl, nn, rfl⟩
            refine ⟨_, rfl, trivial, ?_⟩
            try simp only [Act.put, List.setIfInBounds_toArray, List.set_cons_zero, List.set_cons_succ]
            repeat (first | (refine LexL.none (by rfl) ?_; (try simp only [Act.put, List.setIfInBounds_toArray, List.set_cons_zero, List.set_cons_succ])) | (refine LexL.still (v := ?_) (by rfl) ?_ ?_; rotate_left; (focus (intro W hW; (try dsimp only at hW); go_simp; (try (with_reducible rfl)); done)); (try simp only [Act.put, List.setIfInBounds_toArray, List.set_cons_zero, List.set_cons_succ])))
            refine LexL.done ?_
            go_wp2
            go_ret
            exact ⟨rfl, (H3.out.drewN nn).right.right.right.toBelow' ((HQ.out.drew.trans Q3.out).drewN nn)⟩
        · rcases a3 with _ | a3
          · have hc0 : c3' = 0 := d5 rfl
            subst hc0
            have hj0 : J = 0 := by omega
            subst hj0
            go_wp2_with fail
            refine wp_region_lex (fun _ => True) [3, 8] (by kernel_rfl) (by kernel_rfl) trivial ?_
            repeat (first | (refine LexL.none (by rfl) ?_; (try simp only [Act.put, List.setIfInBounds_toArray, List.set_cons_zero, List.set_cons_succ])) | (refine LexL.still (v := ?_) (by rfl) ?_ ?_; rotate_left; (focus (intro W hW; (try dsimp only at hW); go_simp; (try (with_reducible rfl)); done)); (try simp only [Act.put, List.setIfInBounds_toArray, List.set_cons_zero, List.set_cons_succ])))
            refine LexL.call (f := 32) (args := #[.slice (some a2) K c2']) (w1 := wr.drew) (by rfl) (by decide) (by go_simp) ?_
            refine (all_sl _ _ _ HB1.out.row.drew.bytes (by simp <;> omega) HH.out.drew).mono ?_
            rw [HAL.out]
            rintro e w3 ⟨v3, rfl, q3, h3⟩
            have H3 := Lib.hid h3; have Q3 := Lib.hid q3; clear h3 q3
            refine ⟨_, rfl, trivial, ?_⟩
            try simp only [Act.put, List.setIfInBounds_toArray, List.set_cons_zero, List.set_cons_succ]
            repeat (first | (refine LexL.none (by rfl) ?_; (try simp only [Act.put, List.setIfInBounds_toArray, List.set_cons_zero, List.set_cons_succ])) | (refine LexL.still (v := ?_) (by rfl) ?_ ?_; rotate_left; (focus (intro W hW; (try dsimp only at hW); go_simp; (try (with_reducible rfl)); done)); (try simp only [Act.put, List.setIfInBounds_toArray, List.set_cons_zero, List.set_cons_succ])))
            refine LexL.call (f := 31) (args := #[v3, .slice none 0 0]) (w1 := w3) (by rfl) (by decide) (by go_simp) ?_
            have hrow := recsTake H3.out.right.right.row hJ
            refine (same_recs _ _ _ _ H3.out.row hrow (by simp <;> omega)).mono ?_
            rintro e w4 ⟨rfl, nn, rfl⟩
            refine ⟨_, rfl, trivial, ?_⟩
            try simp only [Act.put, List.setIfInBounds_toArray, List.set_cons_zero, List.set_cons_succ]
            repeat (first | (refine LexL.none (by rfl) ?_; (try simp only [Act.put, List.setIfInBounds_toArray, List.set_cons_zero, List.set_cons_succ])) | (refine LexL.still (v := ?_) (by rfl) ?_ ?_; rotate_left; (focus (intro W hW; (try dsimp only at hW); go_simp; (try (with_reducible rfl)); done)); (try simp only [Act.put, List.setIfInBounds_toArray, List.set_cons_zero, List.set_cons_succ])))
            refine LexL.done ?_
            go_wp2
            go_ret
            exact ⟨rfl, (H3.out.drewN nn).right.right.right.toBelow' ((HQ.out.drew.trans Q3.out).drewN nn)⟩
          · have hA0 : acc.length = acc.length := rfl
            go_wp2_with fail
            refine wp_region_lex (fun _ => True) [3, 8] (by kernel_rfl) (by kernel_rfl) trivial ?_
            repeat (first | (refine LexL.none (by rfl) ?_; (try simp only [Act.put, List.setIfInBounds_toArray, List.set_cons_zero, List.set_cons_succ])) | (refine LexL.still (v := ?_) (by rfl) ?_ ?_; rotate_left; (focus (intro W hW; (try dsimp only at hW); go_simp; (try (with_reducible rfl)); done)); (try simp only [Act.put, List.setIfInBounds_toArray, List.set_cons_zero, List.set_cons_succ])))
            refine LexL.call (f := 32) (args := #[.slice (some a2) K c2']) (w1 := wr.drew) (by rfl) (by decide) (by go_simp) ?_
            refine (all_sl _ _ _ HB1.out.row.drew.bytes (by simp <;> omega) HH.out.drew).mono ?_
            rw [HAL.out]
            rintro e w3 ⟨v3, rfl, q3, h3⟩
            have H3 := Lib.hid h3; have Q3 := Lib.hid q3; clear h3 q3
            refine ⟨_, rfl, trivial, ?_⟩
            try simp only [Act.put, List.setIfInBounds_toArray, List.set_cons_zero, List.set_cons_succ]
            repeat (first | (refine LexL.none (by rfl) ?_; (try simp only [Act.put, List.setIfInBounds_toArray, List.set_cons_zero, List.set_cons_succ])) | (refine LexL.still (v := ?_) (by rfl) ?_ ?_; rotate_left; (focus (intro W hW; (try dsimp only at hW); go_simp; (try (with_reducible rfl)); done)); (try simp only [Act.put, List.setIfInBounds_toArray, List.set_cons_zero, List.set_cons_succ])))
            refine LexL.call (f := 31) (args := #[v3, .slice (some a3) J c3']) (w1 := w3) (by rfl) (by decide) (by go_simp) ?_
            have hrow := recsTake H3.out.right.right.row hJ
            refine (same_recs _ _ _ _ H3.out.row hrow (by simp <;> omega)).mono ?_
            rintro e w4 ⟨rfl, nn, rfl⟩
            refine ⟨_, rfl, trivial, ?_⟩
            try simp only [Act.put, List.setIfInBounds_toArray, List.set_cons_zero, List.set_cons_succ]
            repeat (first | (refine LexL.none (by rfl) ?_; (try simp only [Act.put, List.setIfInBounds_toArray, List.set_cons_zero, List.set_cons_succ])) | (refine LexL.still (v := ?_) (by rfl) ?_ ?_; rotate_left; (focus (intro W hW; (try dsimp only at hW); go_simp; (try (with_reducible rfl)); done)); (try simp only [Act.put, List.setIfInBounds_toArray, List.set_cons_zero, List.set_cons_succ])))
            refine LexL.done ?_
            go_wp2
            go_ret
            exact ⟨rfl, (H3.out.drewN nn).right.right.right.toBelow' ((HQ.out.drew.trans Q3.out).drewN nn)⟩
end Go.Proofs.Ytfihmpkkpgmdhaa
