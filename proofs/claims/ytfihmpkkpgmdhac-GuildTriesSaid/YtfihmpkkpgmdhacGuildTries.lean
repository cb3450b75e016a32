/-
  GuildTries, walked: no try is given twice, by whichever nodes.
-/
import Derived.Test.YtfihmpkkpgmdhacGuildV
import Derived.Test.YtfihmpkkpgmdhacIv6
import Derived.Test.YtfihmpkkpgmdhacPlain12
namespace Go.Proofs.Ytfihmpkkpgmdhac
set_option linter.unusedSimpArgs false
set_option linter.unusedVariables false
open Go.RowKit
set_option maxRecDepth 100000 in
set_option maxHeartbeats 8000000 in
theorem guildTries_any (v : Value) (L : List Stp) (w : World) (hv : (∀ r ∈ L, ∀ n ∈ r.ints, I64' n) ∧ RowAt w v L.length (svs L)) :
    Calls Try.prog 3 #[v] w fun e w' => e = .returned (.bool true) ∧ Below w.heap.size w w' := by
  obtain ⟨a, cc, rfl, c1, c2⟩ := hv.2.shape
  have HV := Lib.hid hv.2; clear hv
  go_enter Try.func3, Try.ntmps3
  go_wp2_with fail
  refine (guildBegun_any _).mono ?_
  rintro e w1 ⟨rfl, hb1⟩
  have H1 := Lib.hid ((Holds.old (w := w)).below hb1)
  have Q1 := Lib.hid (Quiet.below hb1); clear hb1
  by_cases hlen : 300 < L.length
  · go_wp2
    go_ret
    exact ⟨rfl, H1.out.toBelow' Q1.out⟩
  · go_wp2_with fail
    refine (gNew_sl _ H1.out).mono ?_
    rintro e w2 ⟨b, rfl, q2, h2⟩
    have h2 := (show Holds w2 (gld b Gld.zero * old w) from h2)
    have hsz2 := (Q1.out.trans q2).size
    have H2 := Lib.hid ((((h2.boxB (ty := 26) (cs := iv6 (fun _ => 0)) rfl).boxB (ty := 26) (cs := iv6 (fun _ => 0)) (g := w2.heap.size + 1) (by simp)).boxB (ty := 26) (cs := iv6 (fun _ => 0)) (g := w2.heap.size + 2) (by simp)).eq (by ac_rfl : _ = (gld b Gld.zero * (bl w2.heap.size 26 (iv6 (fun _ => 0)) * (bl (w2.heap.size + 1) 26 (iv6 (fun _ => 0)) * (bl (w2.heap.size + 2) 26 (iv6 (fun _ => 0)) * old w))))))
    have Q2 := Lib.hid ((((Q1.out.trans q2).alloc (.cells (iv6 (fun _ => 0)).toArray 26)).alloc (.cells (iv6 (fun _ => 0)).toArray 26)).alloc (.cells (iv6 (fun _ => 0)).toArray 26)); clear h2 q2
    go_wp2_with fail
    go_loopw [7] (fun i wr => ∃ (k : Nat) (g : Gld) (l : List Rec) (tries workers done : Nat → Int), k ≤ L.length ∧ i = .int .i64 k ∧ Holds wr (gld b g * (bl w2.heap.size 26 (iv6 tries) * (bl (w2.heap.size + 1) 26 (iv6 workers) * (bl (w2.heap.size + 2) 26 (iv6 done) * old w)))) ∧ Quiet w wr ∧ g.Ok l ∧ GTries (behind l) tries workers done) (fun i _ => L.length - (intOf i).toNat)
    case atStart => exact ⟨0, Gld.zero, [], fun _ => 0, fun _ => 0, fun _ => 0, by omega, rfl, H2.out, Q2.out, Gld.zero_ok, GTries.zero⟩
    case round =>
      obtain ⟨k, g, l, tries, workers, done, hk, rfl, hh, hq, hok, htr⟩ := hrel
      have HH := Lib.hid hh; have HQ := Lib.hid hq; have HOK := Lib.hid hok; have HT := Lib.hid htr; clear hh hq hok htr
      by_cases hlt : k < L.length
      · obtain ⟨o, ho⟩ : ∃ o, L[k]? = some o := ⟨_, List.getElem?_eq_getElem hlt⟩
        obtain ⟨ga, off, c', e, _, _, hc0⟩ := HV.out.get (by omega)
        simp only [Value.slice.injEq] at e
        obtain ⟨rfl, _, rfl⟩ := e
        have glt0 := block_lt_of_cell (svs_cell hc0 ho 0 _ (by omega) rfl)
        dsimp only at glt0
        have glt2 : ga < w2.heap.size := by omega
        clear hc0
        have HO := Lib.hid ho; clear ho
        obtain ⟨x0, x1, x2, x3, x4, x5, x6, x7, x8⟩ := stp_cells HV.out HO.out (HH.out.eq (by ac_rfl : _ = (gld b g * (bl w2.heap.size 26 (iv6 tries) * (bl (w2.heap.size + 1) 26 (iv6 workers) * bl (w2.heap.size + 2) 26 (iv6 done)))) * old w))
        obtain ⟨kd, x, kp, ⟨kd2, nw, jb, tr, wk, tm⟩⟩ := o
        dsimp only at x0 x1 x2 x3 x4 x5 x6 x7 x8
        obtain ⟨wo, rfl⟩ : ∃ wo : World, wo = wr := ⟨_, rfl⟩
        have hX := HH.out.boxB (ty := 30) (cs := [.int .i64 kd, .int .i64 x, .int .i64 kp, .int .i64 kd2, .int .i64 nw, .int .i64 jb, .int .i64 tr, .int .i64 wk, .int .i64 tm]) rfl
        have HX := Lib.hid hX; have QX := Lib.hid (HQ.out.alloc (.cells ([.int .i64 kd, .int .i64 x, .int .i64 kp, .int .i64 kd2, .int .i64 nw, .int .i64 jb, .int .i64 tr, .int .i64 wk, .int .i64 tm] : List Value).toArray 30)); clear hX
        have gltx : ga < wo.heap.size := by have := HQ.out.size; omega
        go_wp2_with fail
        refine (gStep_sl b g kd x kp kd2 nw jb tr wk tm l _ HX.out.two HOK.out).mono ?_
        obtain ⟨l', hs⟩ := step_ok HOK.out ⟨kd, x, kp, ⟨kd2, nw, jb, tr, wk, tm⟩⟩
        obtain ⟨⟨g', ⟨a0, a1, a2⟩⟩, hXs⟩ : ∃ X, g.step ⟨kd, x, kp, ⟨kd2, nw, jb, tr, wk, tm⟩⟩ = X := ⟨_, rfl⟩
        rw [hXs] at hs ⊢
        have HOK' := Lib.hid hs.ok; have HS := Lib.hid hs
        clear hs hXs x0 x1 x2 x3 x4 x5 x6 x7 x8

        rintro e w3 ⟨rfl, q3, h3⟩
        obtain ⟨gx, hgx⟩ : ∃ gx, wo.heap.size = gx := ⟨_, rfl⟩
        rw [hgx] at h3 ⊢
        have H3 := Lib.hid (show Holds w3 (gld b g' * (bl gx 30 [.int .i64 kd, .int .i64 x, .int .i64 kp, .int .i64 kd2, .int .i64 nw, .int .i64 jb, .int .i64 tr, .int .i64 wk, .int .i64 tm] * (bl w2.heap.size 26 (iv6 tries) * (bl (w2.heap.size + 1) 26 (iv6 workers) * (bl (w2.heap.size + 2) 26 (iv6 done) * old w))))) from h3); have Q3 := Lib.hid (QX.out.trans q3)
        clear h3 q3 hgx gltx glt2 hsz2 glt0
        simp only [Ans.val]
        have H4 := Lib.hid (H3.out.boxB (ty := 32) (cs := [.int .i64 a0, .int .i64 a1, .int .i64 a2]) rfl)
        have Q4 := Lib.hid (Q3.out.alloc (.cells ([.int .i64 a0, .int .i64 a1, .int .i64 a2] : List Value).toArray 32))
        have cX := H3.out.two.bl.cells
        have lX := H3.out.two.bl.lt
        by_cases hk2 : kd = 2
        · subst hk2
          by_cases ha : a0 = 0
          · subst ha
            by_cases ho2 : kd2 = 2
            · subst ho2
              obtain ⟨i, hi, e1, e2, e3, e4, e5, hT'⟩ := HT.out.stepTake HS.out rfl rfl rfl
              dsimp only at e1 e2 e3 e4 hT'
              subst e1
              have HT' := Lib.hid hT'; clear hT'
              have HB := Lib.hid (And.intro H4.out.drew.bl.cells (And.intro (H4.out.drew.right.right.right.bl.cell i (.int .i64 (tries i)) (iv6_get _ hi)) (H4.out.drew.right.right.right.right.right.bl.cell i (.int .i64 0) (by rw [← e5]; exact iv6_get _ hi))))
              have cA := H3.out.right.right.bl.cell i (.int .i64 (tries i)) (iv6_get _ hi)
              have cB := H3.out.right.right.right.bl.cell i (.int .i64 (workers i)) (iv6_get _ hi)
              have fA := H3.out.right.right.bl.frees
              have fB := H3.out.right.right.right.bl.frees
              have lA := H3.out.right.right.bl.lt
              have lB := H3.out.right.right.right.bl.lt
              have nA := BlockAt.ne H3.out.right.bl H3.out.right.right.bl (by decide)
              have nB := BlockAt.ne H3.out.right.bl H3.out.right.right.right.bl (by decide)
              have nA' := fun e => nA (Eq.symm e)
              have nB' := fun e => nB (Eq.symm e)
              have hi' : (i : Int) < 6 := by omega
              have hb0 : decide ((i : Int) < 0) = false := by simp
              have hb1 : decide (6 ≤ (i : Int)) = false := by simp; omega
              have hb2 : decide (3 < a2) = false := by simp; omega
              have hb3 : decide (a2 ≤ tries i) = false := by simp; omega
              go_wp2_with fail
              refine wp_region_lex (fun W => (∀ o, W.cell? ⟨w3.heap.size, o, none⟩ = [Value.int .i64 0, .int .i64 i, .int .i64 a2][o]?) ∧ W.cell? ⟨w2.heap.size, i, none⟩ = some (.int .i64 (tries i)) ∧ W.cell? ⟨w2.heap.size + 2, i, none⟩ = some (.int .i64 0)) [] (by kernel_rfl) (by kernel_rfl) HB.out ?_
              repeat (first | (refine LexL.none (by rfl) ?_; (try simp only [Act.put, List.setIfInBounds_toArray, List.set_cons_zero, List.set_cons_succ])) | (refine LexL.still (v := ?_) (by rfl) ?_ ?_; rotate_left; (focus (intro W hW; (try dsimp only at hW); go_simp; (try (with_reducible rfl)); done)); (try simp only [Act.put, List.setIfInBounds_toArray, List.set_cons_zero, List.set_cons_succ])))
              refine LexL.done ?_
              go_wp2_with fail
              go_region
              have h6 : Holds ((w3.setCell ⟨w2.heap.size, i, none⟩ (.int .i64 a2)).setCell ⟨w2.heap.size + 1, i, none⟩ (.int .i64 wk)) (gld b g' * (bl w2.heap.size 26 (iv6 (upd tries i a2)) * (bl (w2.heap.size + 1) 26 (iv6 (upd workers i wk)) * (bl (w2.heap.size + 2) 26 (iv6 done) * old w)))) := by
                have h7 := (((H3.out.eq (by ac_rfl : _ = bl w2.heap.size 26 (iv6 tries) * (bl (w2.heap.size + 1) 26 (iv6 workers) * (gld b g' * (bl (w2.heap.size + 2) 26 (iv6 done) * (bl gx 30 [.int .i64 2, .int .i64 x, .int .i64 kp, .int .i64 2, .int .i64 nw, .int .i64 jb, .int .i64 tr, .int .i64 wk, .int .i64 tm] * old w)))))).setB i (.int .i64 a2)).two.setB i (.int .i64 wk))
                rw [iv6_set _ hi, iv6_set _ hi] at h7
                exact (h7.eq (by ac_rfl : _ = bl gx 30 [.int .i64 2, .int .i64 x, .int .i64 kp, .int .i64 2, .int .i64 nw, .int .i64 jb, .int .i64 tr, .int .i64 wk, .int .i64 tm] * (gld b g' * (bl w2.heap.size 26 (iv6 (upd tries i a2)) * (bl (w2.heap.size + 1) 26 (iv6 (upd workers i wk)) * (bl (w2.heap.size + 2) 26 (iv6 done) * old w)))))).right
              have H6 := Lib.hid (((h6.alloc (.cells #[.int .i64 0, .int .i64 i, .int .i64 a2] 32)).drew).drew); clear h6
              have Q6 := Lib.hid (((((Q3.out.setCell ⟨w2.heap.size, i, none⟩ (.int .i64 a2)).setCell ⟨w2.heap.size + 1, i, none⟩ (.int .i64 wk)).alloc (.cells #[.int .i64 0, .int .i64 i, .int .i64 a2] 32)).drew).drew)
              clear cA cB fA fB lA lB nA nB nA' nB' cX lX
              go_wp2_with fail
              go_roundw
              case rel => exact ⟨k + 1, g', l', _, _, _, by omega, by go_num, H6.out, Q6.out, HOK'.out, HT'.out⟩
              case measure => simp [intOf]; omega
            · have hk3 : (kd2 == 2) = false := by simpa using ho2
              by_cases ho4 : kd2 = 4
              · subst ho4
                obtain ⟨i, hi, e1, e5, e2, e3, hT'⟩ := HT.out.stepDone HS.out rfl rfl rfl
                dsimp only at e1 e2 e3 hT'
                subst e1
                have HT' := Lib.hid hT'; clear hT'
                have cC := H3.out.right.right.right.right.bl.cell i (.int .i64 0) (by rw [← e5]; exact iv6_get _ hi)
                have fC := H3.out.right.right.right.right.bl.frees
                have lC := H3.out.right.right.right.right.bl.lt
                have nC := BlockAt.ne H3.out.right.bl H3.out.right.right.right.right.bl (by decide)
                have nC' := fun e => nC (Eq.symm e)
                have h6 : Holds (w3.setCell ⟨w2.heap.size + 2, i, none⟩ (.int .i64 1)) (gld b g' * (bl gx 30 [.int .i64 2, .int .i64 x, .int .i64 kp, .int .i64 4, .int .i64 nw, .int .i64 i, .int .i64 tr, .int .i64 wk, .int .i64 tm] * (bl w2.heap.size 26 (iv6 tries) * (bl (w2.heap.size + 1) 26 (iv6 workers) * (bl (w2.heap.size + 2) 26 (iv6 (upd done i 1)) * old w))))) := by
                  have h7 := ((H3.out.eq (by ac_rfl : _ = bl (w2.heap.size + 2) 26 (iv6 done) * (gld b g' * (bl w2.heap.size 26 (iv6 tries) * (bl (w2.heap.size + 1) 26 (iv6 workers) * (bl gx 30 [.int .i64 2, .int .i64 x, .int .i64 kp, .int .i64 4, .int .i64 nw, .int .i64 i, .int .i64 tr, .int .i64 wk, .int .i64 tm] * old w)))))).setB i (.int .i64 1))
                  rw [iv6_set _ hi] at h7
                  exact (h7.eq (by ac_rfl : _ = gld b g' * (bl gx 30 [.int .i64 2, .int .i64 x, .int .i64 kp, .int .i64 4, .int .i64 nw, .int .i64 i, .int .i64 tr, .int .i64 wk, .int .i64 tm] * (bl w2.heap.size 26 (iv6 tries) * (bl (w2.heap.size + 1) 26 (iv6 workers) * (bl (w2.heap.size + 2) 26 (iv6 (upd done i 1)) * old w))))))
                have H6 := Lib.hid ((h6.alloc (.cells #[.int .i64 0, .int .i64 a1, .int .i64 a2] 32)).drew); clear h6
                have Q6 := Lib.hid (((Q3.out.setCell ⟨w2.heap.size + 2, i, none⟩ (.int .i64 1)).alloc (.cells #[.int .i64 0, .int .i64 a1, .int .i64 a2] 32)).drew)
                have HB := Lib.hid (And.intro H6.out.right.bl.cells (And.intro (H6.out.right.right.right.right.bl.cell i (.int .i64 1) (by rw [iv6_get _ hi]; simp [upd])) (And.intro (H6.out.right.right.bl.cell i (.int .i64 (tries i)) (iv6_get _ hi)) (H6.out.right.right.right.bl.cell i (.int .i64 (workers i)) (iv6_get _ hi)))))
                have hi' : (i : Int) < 6 := by omega
                have hb0 : decide ((i : Int) < 0) = false := by simp
                have hb1 : decide (6 ≤ (i : Int)) = false := by simp; omega
                have hb2 : decide (tr < tries i) = false := by simp; omega
                by_cases htt : tr = tries i
                · have hw := e3 htt
                  have hb3 : (tr == tries i) = true := by simpa using htt
                  have hb4 : (wk != workers i) = false := by simpa using hw
                  clear htt hw e3 e2
                  go_wp2_with fail
                  refine wp_region_lex (fun W => (∀ o, W.cell? ⟨gx, o, none⟩ = ([.int .i64 2, .int .i64 x, .int .i64 kp, .int .i64 4, .int .i64 nw, .int .i64 i, .int .i64 tr, .int .i64 wk, .int .i64 tm] : List Value)[o]?) ∧ W.cell? ⟨w2.heap.size + 2, i, none⟩ = some (.int .i64 1) ∧ W.cell? ⟨w2.heap.size, i, none⟩ = some (.int .i64 (tries i)) ∧ W.cell? ⟨w2.heap.size + 1, i, none⟩ = some (.int .i64 (workers i))) [] (by kernel_rfl) (by kernel_rfl) HB.out ?_
                  repeat (first | (refine LexL.none (by rfl) ?_; (try simp only [Act.put, List.setIfInBounds_toArray, List.set_cons_zero, List.set_cons_succ])) | (refine LexL.still (v := ?_) (by rfl) ?_ ?_; rotate_left; (focus (intro W hW; (try dsimp only at hW); go_simp; (try (with_reducible rfl)); done)); (try simp only [Act.put, List.setIfInBounds_toArray, List.set_cons_zero, List.set_cons_succ])))
                  refine LexL.done ?_
                  go_wp2_with fail
                  go_roundw
                  case rel => exact ⟨k + 1, g', l', _, _, _, by omega, by go_num, (H6.out.two.right), Q6.out, HOK'.out, HT'.out⟩
                  case measure => simp [intOf]; omega
                · have hb3 : (tr == tries i) = false := by simpa using htt
                  clear htt e3 e2
                  go_wp2_with fail
                  refine wp_region_lex (fun W => (∀ o, W.cell? ⟨gx, o, none⟩ = ([.int .i64 2, .int .i64 x, .int .i64 kp, .int .i64 4, .int .i64 nw, .int .i64 i, .int .i64 tr, .int .i64 wk, .int .i64 tm] : List Value)[o]?) ∧ W.cell? ⟨w2.heap.size + 2, i, none⟩ = some (.int .i64 1) ∧ W.cell? ⟨w2.heap.size, i, none⟩ = some (.int .i64 (tries i)) ∧ W.cell? ⟨w2.heap.size + 1, i, none⟩ = some (.int .i64 (workers i))) [] (by kernel_rfl) (by kernel_rfl) HB.out ?_
                  repeat (first | (refine LexL.none (by rfl) ?_; (try simp only [Act.put, List.setIfInBounds_toArray, List.set_cons_zero, List.set_cons_succ])) | (refine LexL.still (v := ?_) (by rfl) ?_ ?_; rotate_left; (focus (intro W hW; (try dsimp only at hW); go_simp; (try (with_reducible rfl)); done)); (try simp only [Act.put, List.setIfInBounds_toArray, List.set_cons_zero, List.set_cons_succ])))
                  refine LexL.done ?_
                  go_wp2_with fail
                  go_roundw
                  case rel => exact ⟨k + 1, g', l', _, _, _, by omega, by go_num, (H6.out.two.right), Q6.out, HOK'.out, HT'.out⟩
                  case measure => simp [intOf]; omega
              · have hk4 : (kd2 == 4) = false := by simpa using ho4
                have HT' := Lib.hid (HT.out.step HS.out)
                clear ho2 ho4
                go_wp2_with fail
                go_roundw
                case rel => exact ⟨k + 1, g', l', _, _, _, by omega, by go_num, (H4.out.right.two.right), Q4.out, HOK'.out, HT'.out⟩
                case measure => simp [intOf]; omega
          · have hka : (a0 != 0) = true := by simpa using ha
            have HT' := Lib.hid (HT.out.step HS.out)
            clear ha
            go_wp2_with fail
            go_roundw
            case rel => exact ⟨k + 1, g', l', _, _, _, by omega, by go_num, (H4.out.right.two.right), Q4.out, HOK'.out, HT'.out⟩
            case measure => simp [intOf]; omega
        · have hk3 : (kd != 2) = true := by simpa using hk2
          have HT' := Lib.hid (HT.out.step HS.out)
          clear hk2
          go_wp2_with fail
          go_roundw
          case rel => exact ⟨k + 1, g', l', _, _, _, by omega, by go_num, (H4.out.right.two.right), Q4.out, HOK'.out, HT'.out⟩
          case measure => simp [intOf]; omega
      · obtain rfl : k = L.length := by omega
        go_wp2
        go_ret
        exact ⟨rfl, HH.out.right.right.right.right.toBelow' HQ.out⟩
end Go.Proofs.Ytfihmpkkpgmdhac
