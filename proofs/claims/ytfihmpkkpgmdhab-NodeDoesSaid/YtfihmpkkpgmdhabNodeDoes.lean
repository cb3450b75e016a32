/-
  NodeDoes, walked: nodes of one disk do as the document says.
-/
import Derived.Test.YtfihmpkkpgmdhabCrewE
namespace Go.Proofs.Ytfihmpkkpgmdhab
set_option linter.unusedSimpArgs false
set_option linter.unusedVariables false
open Go.RowKit
set_option maxRecDepth 100000 in
set_option maxHeartbeats 8000000 in
theorem nodeDoes_any (v0 v1 : Value) (B : List UInt8) (L : List Stp) (w : World) (hb : BytesAt w v0 B) (hL : (∀ r ∈ L, ∀ n ∈ r.ints, I64' n) ∧ RowAt w v1 L.length (svs L)) :
    Calls Try.prog 12 #[v0, v1] w fun e w' => e = .returned (.bool true) ∧ Below w.heap.size w w' := by
  have hfldA : ∀ (a b c : Value) (W : World), (Instr.field 32 (.agg #[a, b, c]) 0).run Try.prog W = .ok a W := fun a b c W => by kernel_rfl
  obtain ⟨ab, cb, rfl, _, _⟩ := hb.shape
  obtain ⟨al, cl, rfl, _, _⟩ := hL.2.shape
  have HBY := Lib.hid hb; have HV := Lib.hid hL.2; clear hb hL
  go_enter Try.func12, Try.ntmps12
  go_wp2_with fail
  refine (nodeBegun_any _).mono ?_
  rintro e w1 ⟨rfl, hb1⟩
  have H1 := Lib.hid ((Holds.old (w := w)).below hb1)
  have Q1 := Lib.hid (Quiet.below hb1); clear hb1
  by_cases hb1400 : 1400 < B.length
  · go_wp2
    go_ret
    exact ⟨rfl, H1.out.toBelow' Q1.out⟩
  · by_cases hl200 : 200 < L.length
    · go_wp2
      go_ret
      exact ⟨rfl, H1.out.toBelow' Q1.out⟩
    · go_wp2_with fail
      have HB1 := Lib.hid (HBY.out.to H1.out.block)
      refine (newCrew_sl _ B _ HB1.out (by omega)).mono ?_
      rintro e w2 ⟨b, bd, bp, rfl, q2, h2⟩
      have h2f := ((h2.eq (by unfold CH; ac_rfl : _ = (cblk b bd bp (.slice none 0 0) (.slice none 0 0) * (dsk bd ⟨1, B⟩ * (plt bp 115 [] ⟨1, B⟩ * (nrow (.slice none 0 0) [] * (vrow (.slice none 0 0) [] * (nls bd [] [] * vls bp [] [])))))) * old w1)).frame H1.out)
      have H2 := Lib.hid (show Holds w2 (CH b bd bp (.slice none 0 0) (.slice none 0 0) [] [] ⟨⟨1, B⟩, []⟩ ⟨⟨1, B⟩, []⟩ (old w)) from h2f.eq (by unfold CH; ac_rfl))
      have Q2 := Lib.hid (Q1.out.trans q2); clear h2 q2 h2f HB1
      go_wp2_with fail
      go_loopw [6] (fun i wr => ∃ (k : Nat) (vn vv : Value) (pn pv : List Nat) (c v : Crw), k ≤ L.length ∧ i = .int .i64 k ∧ Holds wr (CH b bd bp vn vv pn pv c v (old w)) ∧ Quiet w wr ∧ Cok pn pv c v ∧ c = v) (fun i _ => L.length - (intOf i).toNat)
      case atStart => exact ⟨0, _, _, _, _, _, _, by omega, rfl, H2.out, Q2.out, cok_zero (by omega), rfl⟩
      case round =>
        obtain ⟨k, vn, vv, pn, pv, c, v, hk, rfl, hh, hq, hok, rfl⟩ := hrel
        obtain ⟨wo, rfl⟩ : ∃ wo : World, wo = wr := ⟨_, rfl⟩
        have HH := Lib.hid hh; have HQ := Lib.hid hq; have HOK := Lib.hid hok; clear hh hq hok
        by_cases hlt : k < L.length
        · obtain ⟨o, ho⟩ : ∃ o, L[k]? = some o := ⟨_, List.getElem?_eq_getElem hlt⟩
          obtain ⟨ga, off, c', e, _, _, hc0⟩ := HV.out.get (by omega)
          simp only [Value.slice.injEq] at e
          obtain ⟨rfl, _, rfl⟩ := e
          obtain ⟨x0, x1, x2, x3, x4, x5, x6, x7, x8⟩ := stp_cells HV.out ho (HH.out.eq (by unfold CH; ac_rfl : _ = (cblk b bd bp vn vv * (dsk bd c.d * (plt bp 115 [] c.d * (nrow vn pn * (vrow vv pv * (nls bd pn c.ns * vls bp pv c.ns)))))) * old w))
          obtain ⟨kd, x, kp, ⟨kd2, nw, jb, tr, wk, tm⟩⟩ := o
          dsimp only at x0 x1 x2 x3 x4 x5 x6 x7 x8
          clear ho hc0
          have hrw : ∀ a : Int, IntKind.i64.wrap ((k : Int).tmod 3) = (k : Int).tmod 3 := fun _ => by rw [IntKind.wrap_i64]; have : (k : Int).tmod 3 = (k : Int) % 3 := Int.tmod_eq_emod_of_nonneg (by omega); omega
          have hrw2 := hrw 0
          have hrw3 : IntKind.i64.wrap 3 = 3 := by decide
          clear hrw
          go_wp2_with fail
          refine (cstep_sl b bd bp vn vv pn pv c c kd x kp kd2 nw jb tr wk tm _ HH.out HOK.out).mono ?_
          rintro e w3 ⟨vn', vv', pn', pv', c', v', y, rfl, q3, h3, hok', hy⟩
          obtain ⟨rfl, rfl⟩ := hy rfl
          have Q3 := Lib.hid (HQ.out.trans q3)
          have H3 := Lib.hid h3; have OK3 := Lib.hid hok'
          clear x0 x1 x2 x3 x4 x5 x6 x7 x8 h3 q3 hok' hy
          by_cases h3 : (k : Int).tmod 3 = 0
          · have h3b : ((k : Int).tmod 3 == 0) = true := by simpa using h3
            go_wp2_with fail
            refine (csame_sl b bd bp vn' vv' pn' pv' c' _ H3.out OK3.out).mono ?_
            rintro e w4 ⟨rfl, q4, h4⟩
            have Q4 := Lib.hid (Q3.out.trans q4)
            go_wp2_with fail
            go_roundw
            case rel => exact ⟨k + 1, vn', vv', pn', pv', c', c', by omega, by go_num, h4, Q4.out, OK3.out, rfl⟩
            case measure => simp [intOf]; omega
          · have h3b : ((k : Int).tmod 3 == 0) = false := by simpa using h3
            go_wp2_with fail
            go_roundw
            case rel => exact ⟨k + 1, vn', vv', pn', pv', c', c', by omega, by go_num, H3.out, Q3.out, OK3.out, rfl⟩
            case measure => simp [intOf]; omega
        · obtain rfl : k = L.length := by omega
          go_wp2_with fail
          refine (csame_sl b bd bp vn vv pn pv c _ HH.out HOK.out).mono ?_
          rintro e w4 ⟨rfl, q4, h4⟩
          go_wp2
          go_ret
          exact ⟨rfl, (h4.eq (by unfold CH; ac_rfl : _ = (cblk b bd bp vn vv * (dsk bd c.d * (plt bp 115 [] c.d * (nrow vn pn * (vrow vv pv * (nls bd pn c.ns * vls bp pv c.ns)))))) * old w)).toBelow (HQ.out.trans q4)⟩
end Go.Proofs.Ytfihmpkkpgmdhab
