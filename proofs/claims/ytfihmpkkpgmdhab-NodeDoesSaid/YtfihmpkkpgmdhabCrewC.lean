/-
  A crew's step, walked: a node is ordered, torn, stopped.
-/
import Derived.Test.YtfihmpkkpgmdhabCrewB
import Derived.Test.YtfihmpkkpgmdhabUidx
namespace Go.Proofs.Ytfihmpkkpgmdhab
set_option maxRecDepth 100000
set_option linter.unusedSimpArgs false
set_option linter.unusedVariables false
open Go.RowKit
theorem set_same {l : List Nod} {i : Nat} {n : Nod} (h : l[i]? = some n) : l.set i n = l := by
  apply List.ext_getElem?
  intro j
  rw [List.getElem?_set]
  split
  · subst_vars
    have := (List.getElem?_eq_some_iff.1 h).1
    rw [if_pos this]
    exact h.symm
  · rfl
theorem append_ep (d : Dsk) (e : Int) (m : List UInt8) : (d.append e m).1.ep = d.ep := by
  unfold Dsk.append
  split
  · rfl
  · split <;> rfl
theorem order_epd (d : Dsk) (n : Nod) (o : Ord) (k : Nat) : (n.order d o k).1.ep = d.ep := by
  unfold Nod.order
  split
  · rfl
  · split
    · rfl
    · split
      · rfl
      · split
        · rfl
        · exact append_ep _ _ _
theorem order_ep (d f : Dsk) (n m : Nod) (o : Ord) (k l : Nat) (h : d.ep = f.ep) : (n.order d o k).1.ep = (m.order f o l).1.ep := by rw [order_epd, order_epd, h]
theorem tear_ep (d f : Dsk) (n m : Nod) (o : Ord) (k l : Nat) (h : d.ep = f.ep) : (n.tear d o k).1.ep = (m.tear f o l).1.ep := by
  have h1 : ∀ (n : Nod) (d : Dsk) k, (n.tear d o k).1 = (n.order d o k).1 := fun n d k => by unfold Nod.tear; dsimp only; split <;> rfl
  rw [h1, h1, order_epd, order_epd, h]
theorem ans_eq (x1 x2 x3 y1 y2 y3 : Int) : ∃ y : Bool, (∀ W : World, (Op.equalIn 10000 32 (.agg #[.int .i64 x1, .int .i64 x2, .int .i64 x3]) (.agg #[.int .i64 y1, .int .i64 y2, .int .i64 y3])).run Try.prog W = .ok y W) ∧ (x1 = y1 → x2 = y2 → x3 = y3 → y = true) := by
  by_cases e1 : x1 = y1
  · by_cases e2 : x2 = y2
    · by_cases e3 : x3 = y3
      · subst e1 e2 e3
        exact ⟨true, fun W => by go_simp, fun _ _ _ => rfl⟩
      · have h3 : (x3 == y3) = false := by simpa using e3
        subst e1 e2
        exact ⟨false, fun W => by go_simp, fun _ _ h => absurd h e3⟩
    · have h2 : (x2 == y2) = false := by simpa using e2
      subst e1
      exact ⟨false, fun W => by go_simp, fun _ h _ => absurd h e2⟩
  · have h1 : (x1 == y1) = false := by simpa using e1
    exact ⟨false, fun W => by go_simp, fun h _ _ => absurd h e1⟩
set_option maxHeartbeats 8000000 in
theorem cstep_act (b bd bp : Nat) (vn vv : Value) (pn pv : List Nat) (c v : Crw) (do_ k kp kd2 nw jb tr wk tm : Int) (w : World) {R : HP} (h : Holds w (CH b bd bp vn vv pn pv c v R)) (ok : Cok pn pv c v) (hdo : do_ ≠ 0) :
    Calls Try.prog 35 #[.pointer (some ⟨b, 0, none⟩), .agg #[.int .i64 do_, .int .i64 k, .int .i64 kp, .int .i64 kd2, .int .i64 nw, .int .i64 jb, .int .i64 tr, .int .i64 wk, .int .i64 tm]] w (CPost w b bd bp c v R) := by
  obtain ⟨w0, hw0, H0, Q0⟩ : ∃ w0, w.alloc (.cells #[.int .i64 do_, .int .i64 k, .int .i64 kp, .int .i64 kd2, .int .i64 nw, .int .i64 jb, .int .i64 tr, .int .i64 wk, .int .i64 tm] 72) = w0 ∧ Hid (Holds w0 (CH b bd bp vn vv pn pv c v (bl w.heap.size 72 [.int .i64 do_, .int .i64 k, .int .i64 kp, .int .i64 kd2, .int .i64 nw, .int .i64 jb, .int .i64 tr, .int .i64 wk, .int .i64 tm] * R))) ∧ Hid (Quiet w w0) :=
    ⟨_, rfl, Lib.hid ((h.boxB (ty := 72) (cs := [.int .i64 do_, .int .i64 k, .int .i64 kp, .int .i64 kd2, .int .i64 nw, .int .i64 jb, .int .i64 tr, .int .i64 wk, .int .i64 tm]) rfl).eq (by unfold CH; ac_rfl)), Lib.hid ((Quiet.refl w).alloc _)⟩
  clear h
  obtain ⟨g0, hg0⟩ : ∃ g0, w.heap.size = g0 := ⟨_, rfl⟩
  rw [hg0] at H0
  have hdo0 : (do_ == 0) = false := by simpa using hdo
  clear hdo
  obtain ⟨an, cn, rfl, _, _⟩ := (H0.out.eq (by unfold CH; ac_rfl : _ = nrow vn pn * (cblk b bd bp vn vv * (dsk bd c.d * (plt bp 115 [] v.d * (vrow vv pv * (nls bd pn c.ns * (vls bp pv v.ns * (bl g0 72 [.int .i64 do_, .int .i64 k, .int .i64 kp, .int .i64 kd2, .int .i64 nw, .int .i64 jb, .int .i64 tr, .int .i64 wk, .int .i64 tm] * R))))))))).row.shape
  obtain ⟨av, cv, rfl, _, _⟩ := (H0.out.eq (by unfold CH; ac_rfl : _ = vrow vv pv * (cblk b bd bp (.slice an pn.length cn) vv * (dsk bd c.d * (plt bp 115 [] v.d * (nrow (.slice an pn.length cn) pn * (nls bd pn c.ns * (vls bp pv v.ns * (bl g0 72 [.int .i64 do_, .int .i64 k, .int .i64 kp, .int .i64 kd2, .int .i64 nw, .int .i64 jb, .int .i64 tr, .int .i64 wk, .int .i64 tm] * R))))))))).row.shape
  have cc0 := (show BlockAt w0 b 78 [.pointer (some ⟨bd, 0, none⟩), .pointer (some ⟨bp, 0, none⟩), (.slice an pn.length cn), (.slice av pv.length cv)] from H0.out.bl).cells
  have cx0 := (H0.out.eq (by unfold CH; ac_rfl : _ = bl g0 72 [.int .i64 do_, .int .i64 k, .int .i64 kp, .int .i64 kd2, .int .i64 nw, .int .i64 jb, .int .i64 tr, .int .i64 wk, .int .i64 tm] * CH b bd bp (.slice an pn.length cn) (.slice av pv.length cv) pn pv c v R)).bl.cells
  have OK := Lib.hid ok
  have hl8 : pn.length ≤ 8 := by rw [ok.ln]; exact ok.g1.2
  have hpv : pv.length = pn.length := by rw [ok.lv, ok.ln, ok.nv]
  clear ok
  by_cases hz : pn.length = 0
  · have hzb : ((pn.length : Int) == 0) = true := by simpa using hz
    go_enter Try.func35, Try.ntmps35
    go_wp2
    go_ret
    exact ⟨(.slice an pn.length cn), (.slice av pv.length cv), pn, pv, c, v, true, rfl, Q0.out, (H0.out.eq (by unfold CH; ac_rfl : _ = bl g0 72 [.int .i64 do_, .int .i64 k, .int .i64 kp, .int .i64 kd2, .int .i64 nw, .int .i64 jb, .int .i64 tr, .int .i64 wk, .int .i64 tm] * CH b bd bp (.slice an pn.length cn) (.slice av pv.length cv) pn pv c v R)).right, OK.out, fun e => ⟨e, rfl⟩⟩
  · have hzb : ((pn.length : Int) == 0) = false := by simpa using hz
    obtain ⟨K, hKl, hK⟩ := uidx k pn.length (by omega) (by omega)
    obtain ⟨n, hn⟩ : ∃ n, c.ns[K]? = some n := ⟨_, List.getElem?_eq_getElem (by rw [← OK.out.ln]; exact hKl)⟩
    obtain ⟨m, hm⟩ : ∃ m, v.ns[K]? = some m := ⟨_, List.getElem?_eq_getElem (by rw [← OK.out.lv, hpv]; exact hKl)⟩
    obtain ⟨p, hp⟩ : ∃ p, pn[K]? = some p := ⟨_, List.getElem?_eq_getElem hKl⟩
    obtain ⟨q, hq⟩ : ∃ q, pv[K]? = some q := ⟨_, List.getElem?_eq_getElem (by rw [hpv]; exact hKl)⟩
    obtain ⟨RN, hRN, hRN2⟩ := lst_pick (fun p n => nod p bd n) pn c.ns K p n hp hn
    obtain ⟨RV, hRV, hRV2⟩ := lst_pick (fun p n => vrg p bp n) pv v.ns K q m hq hm
    have H1 := Lib.hid (H0.out.eq (by unfold CH nls vls; rw [hRN, hRV]; ac_rfl : _ = cblk b bd bp (.slice an pn.length cn) (.slice av pv.length cv) * (nrow (.slice an pn.length cn) pn * (vrow (.slice av pv.length cv) pv * (bl g0 72 [.int .i64 do_, .int .i64 k, .int .i64 kp, .int .i64 kd2, .int .i64 nw, .int .i64 jb, .int .i64 tr, .int .i64 wk, .int .i64 tm] * (nod p bd n * (dsk bd c.d * (vrg q bp m * (plt bp 115 [] v.d * (RN * (RV * R))))))))))) 
    obtain ⟨gn, on, cn', en, _, _, hcn⟩ := H1.out.two.row.get (by omega)
    simp only [Value.slice.injEq] at en
    obtain ⟨rfl, _, rfl⟩ := en
    obtain ⟨gv, ov, cv', ev, _, _, hcv⟩ := H1.out.three.row.get (by omega)
    simp only [Value.slice.injEq] at ev
    obtain ⟨rfl, _, rfl⟩ := ev
    have mkS : ∀ (W : World) (B : HP), Holds W (cblk b bd bp (.slice (some ⟨gn, on, none⟩) pn.length cn) (.slice (some ⟨gv, ov, none⟩) pv.length cv) * (nrow (.slice (some ⟨gn, on, none⟩) pn.length cn) pn * (vrow (.slice (some ⟨gv, ov, none⟩) pv.length cv) pv * (bl g0 72 [.int .i64 do_, .int .i64 k, .int .i64 kp, .int .i64 kd2, .int .i64 nw, .int .i64 jb, .int .i64 tr, .int .i64 wk, .int .i64 tm] * B)))) → ((∀ o, W.cell? ⟨b, o, none⟩ = ([.pointer (some ⟨bd, 0, none⟩), .pointer (some ⟨bp, 0, none⟩), (.slice (some ⟨gn, on, none⟩) pn.length cn), (.slice (some ⟨gv, ov, none⟩) pv.length cv)] : List Value)[o]?) ∧ W.cell? ⟨gn, on + K, none⟩ = some (.pointer (some ⟨p, 0, none⟩)) ∧ W.cell? ⟨gv, ov + K, none⟩ = some (.pointer (some ⟨q, 0, none⟩)) ∧ ∀ o, W.cell? ⟨g0, o, none⟩ = ([.int .i64 do_, .int .i64 k, .int .i64 kp, .int .i64 kd2, .int .i64 nw, .int .i64 jb, .int .i64 tr, .int .i64 wk, .int .i64 tm] : List Value)[o]?) := by
      intro W B hW
      refine ⟨(show BlockAt W b 78 [.pointer (some ⟨bd, 0, none⟩), .pointer (some ⟨bp, 0, none⟩), (.slice (some ⟨gn, on, none⟩) pn.length cn), (.slice (some ⟨gv, ov, none⟩) pv.length cv)] from hW.bl).cells, ?_, ?_, hW.four.bl.cells⟩
      · obtain ⟨g', o', c', e, _, _, hc⟩ := hW.two.row.get (by omega)
        simp only [Value.slice.injEq, Option.some.injEq, Addr.mk.injEq, and_true] at e
        obtain ⟨⟨rfl, rfl⟩, _, rfl⟩ := e
        exact hc _ _ (pvs_get pn hp)
      · obtain ⟨g', o', c', e, _, _, hc⟩ := hW.three.row.get (by omega)
        simp only [Value.slice.injEq, Option.some.injEq, Addr.mk.injEq, and_true] at e
        obtain ⟨⟨rfl, rfl⟩, _, rfl⟩ := e
        exact hc _ _ (pvs_get pv hq)
    have MKS := Lib.hid mkS
    have S0 := Lib.hid (mkS _ _ H1.out.drew)
    obtain ⟨en1, en2, en3⟩ := OK.out.g1.node hn
    obtain ⟨em1, em2, em3⟩ := OK.out.g2.node hm
    have HN := Lib.hid hn; have HM := Lib.hid hm; have HRN2 := Lib.hid hRN2; have HRV2 := Lib.hid hRV2; have EN3 := Lib.hid en3; have EM3 := Lib.hid em3; have EN1 := Lib.hid en1; have EM1 := Lib.hid em1
    have hKi : (K : Int) < (pn.length : Int) := by omega
    have hKv : (K : Int) < (pv.length : Int) := by omega
    have hKvn : K < pv.length := by omega
    have hd1 := OK.out.g1.dok; have hd2 := OK.out.g2.dok
    have HD1 := Lib.hid hd1; have HD2 := Lib.hid hd2
    have hwl : IntKind.u64.wrap (pn.length : Int) = (pn.length : Int) := by
      have hw : ∀ n : Int, IntKind.u64.wrap n = n % 18446744073709551616 := fun n => by simp [IntKind.wrap, IntKind.bits, IntKind.signed]
      rw [hw]; omega
    have hzi : ¬ (pn.length : Int) = 0 := by omega
    have hK2 : IntKind.i64.wrap ((IntKind.u64.wrap k).tmod (pn.length : Int)) = (K : Int) := by
      have h1 := hK
      unfold wrap64 at h1
      rw [IntKind.wrap_i64]
      first | exact hK | omega
    clear hn hm hp hq hRN hRV hRN2 hRV2 hcn hcv mkS en1 en2 en3 em1 em2 em3 hd1 hd2 hpv
    go_enter Try.func35, Try.ntmps35
    go_wp2_with fail
    clear hw0 hg0 cc0 cx0
    refine wp_region_lex (fun W => (∀ o, W.cell? ⟨b, o, none⟩ = ([.pointer (some ⟨bd, 0, none⟩), .pointer (some ⟨bp, 0, none⟩), (.slice (some ⟨gn, on, none⟩) pn.length cn), (.slice (some ⟨gv, ov, none⟩) pv.length cv)] : List Value)[o]?) ∧ W.cell? ⟨gn, on + K, none⟩ = some (.pointer (some ⟨p, 0, none⟩)) ∧ W.cell? ⟨gv, ov + K, none⟩ = some (.pointer (some ⟨q, 0, none⟩)) ∧ ∀ o, W.cell? ⟨g0, o, none⟩ = ([.int .i64 do_, .int .i64 k, .int .i64 kp, .int .i64 kd2, .int .i64 nw, .int .i64 jb, .int .i64 tr, .int .i64 wk, .int .i64 tm] : List Value)[o]?) [] (by kernel_rfl) (by kernel_rfl) S0.out ?_
    repeat (first | (refine LexL.none (by rfl) ?_; (try simp only [Act.put, List.setIfInBounds_toArray, List.set_cons_zero, List.set_cons_succ])) | (refine LexL.still (v := ?_) (by rfl) ?_ ?_; rotate_left; (focus (intro W hW; (try dsimp only at hW); go_simp; (try (with_reducible rfl)); done)); (try simp only [Act.put, List.setIfInBounds_toArray, List.set_cons_zero, List.set_cons_succ])))
    refine LexL.done ?_
    try simp only [hK, hK2]
    have hd := H1.out.drew
    have qd := Q0.out.drew
    have sd := S0.out
    obtain ⟨w1, hw1⟩ : ∃ w1, w0.drew = w1 := ⟨_, rfl⟩
    rw [hw1] at hd qd sd ⊢
    have H2 := Lib.hid hd; have Q2 := Lib.hid qd
    obtain ⟨c1, c2, c3, c4⟩ := sd
    clear hw1 hd qd S0 H1 Q0 H0
    by_cases h1 : do_ = 1
    · subst h1
      have S1 := Lib.hid (MKS.out _ _ H2.out.drew)
      obtain ⟨⟨d', n', ⟨x1, x2, x3⟩⟩, hX1⟩ : ∃ X, n.order c.d ⟨kd2, nw, jb, tr, wk, tm⟩ 9 = X := ⟨_, rfl⟩
      obtain ⟨⟨f', m', ⟨y1, y2, y3⟩⟩, hX2⟩ : ∃ X, m.order v.d ⟨kd2, nw, jb, tr, wk, tm⟩ 9 = X := ⟨_, rfl⟩
      have HX1 := Lib.hid hX1; have HX2 := Lib.hid hX2
      clear hX1 hX2
      go_wp2_with fail
      clear c1 c2 c3 c4
      try simp only [hK, hK2]
      refine wp_region_lex (fun W => (∀ o, W.cell? ⟨b, o, none⟩ = ([.pointer (some ⟨bd, 0, none⟩), .pointer (some ⟨bp, 0, none⟩), (.slice (some ⟨gn, on, none⟩) pn.length cn), (.slice (some ⟨gv, ov, none⟩) pv.length cv)] : List Value)[o]?) ∧ W.cell? ⟨gn, on + K, none⟩ = some (.pointer (some ⟨p, 0, none⟩)) ∧ W.cell? ⟨gv, ov + K, none⟩ = some (.pointer (some ⟨q, 0, none⟩)) ∧ ∀ o, W.cell? ⟨g0, o, none⟩ = ([.int .i64 1, .int .i64 k, .int .i64 kp, .int .i64 kd2, .int .i64 nw, .int .i64 jb, .int .i64 tr, .int .i64 wk, .int .i64 tm] : List Value)[o]?) [9, 19] (by kernel_rfl) (by kernel_rfl) S1.out ?_
      repeat (first | (refine LexL.none (by rfl) ?_; (try simp only [Act.put, List.setIfInBounds_toArray, List.set_cons_zero, List.set_cons_succ])) | (refine LexL.still (v := ?_) (by rfl) ?_ ?_; rotate_left; (focus (intro W hW; (try dsimp only at hW); go_simp; (try (with_reducible rfl)); done)); (try simp only [Act.put, List.setIfInBounds_toArray, List.set_cons_zero, List.set_cons_succ])))
      refine LexL.call (f := 38) (args := #[.pointer (some ⟨p, 0, none⟩), .agg #[.int .i64 kd2, .int .i64 nw, .int .i64 jb, .int .i64 tr, .int .i64 wk, .int .i64 tm]]) (w1 := w1.drew) (by rfl) (by decide) (by go_simp) ?_
      refine (nOrder_sl p bd c.d n kd2 nw jb tr wk tm _ (H2.out.drew.eq (by ac_rfl : _ = nod p bd n * (dsk bd c.d * (cblk b bd bp (.slice (some ⟨gn, on, none⟩) pn.length cn) (.slice (some ⟨gv, ov, none⟩) pv.length cv) * (nrow (.slice (some ⟨gn, on, none⟩) pn.length cn) pn * (vrow (.slice (some ⟨gv, ov, none⟩) pv.length cv) pv * (bl g0 72 [.int .i64 1, .int .i64 k, .int .i64 kp, .int .i64 kd2, .int .i64 nw, .int .i64 jb, .int .i64 tr, .int .i64 wk, .int .i64 tm] * (vrg q bp m * (plt bp 115 [] v.d * (RN * (RV * R))))))))))) HD1.out EN1.out EN3.out).mono ?_
      rw [HX1.out]
      rintro e w3 ⟨rfl, q3, h3⟩
      simp only [Ans.val]
      have h3 : Holds w3 (nod p bd n' * (dsk bd d' * (cblk b bd bp (.slice (some ⟨gn, on, none⟩) pn.length cn) (.slice (some ⟨gv, ov, none⟩) pv.length cv) * (nrow (.slice (some ⟨gn, on, none⟩) pn.length cn) pn * (vrow (.slice (some ⟨gv, ov, none⟩) pv.length cv) pv * (bl g0 72 [.int .i64 1, .int .i64 k, .int .i64 kp, .int .i64 kd2, .int .i64 nw, .int .i64 jb, .int .i64 tr, .int .i64 wk, .int .i64 tm] * (vrg q bp m * (plt bp 115 [] v.d * (RN * (RV * R)))))))))) := h3
      have H3 := Lib.hid (h3.eq (by ac_rfl : _ = cblk b bd bp (.slice (some ⟨gn, on, none⟩) pn.length cn) (.slice (some ⟨gv, ov, none⟩) pv.length cv) * (nrow (.slice (some ⟨gn, on, none⟩) pn.length cn) pn * (vrow (.slice (some ⟨gv, ov, none⟩) pv.length cv) pv * (bl g0 72 [.int .i64 1, .int .i64 k, .int .i64 kp, .int .i64 kd2, .int .i64 nw, .int .i64 jb, .int .i64 tr, .int .i64 wk, .int .i64 tm] * (vrg q bp m * (plt bp 115 [] v.d * (nod p bd n' * (dsk bd d' * (RN * (RV * R)))))))))))
      have Q3 := Lib.hid (Q2.out.drew.trans q3)
      refine ⟨_, rfl, MKS.out _ _ H3.out, ?_⟩
      clear h3 q3
      try simp only [Act.put, List.setIfInBounds_toArray, List.set_cons_zero, List.set_cons_succ]
      repeat (first | (refine LexL.none (by rfl) ?_; (try simp only [Act.put, List.setIfInBounds_toArray, List.set_cons_zero, List.set_cons_succ])) | (refine LexL.still (v := ?_) (by rfl) ?_ ?_; rotate_left; (focus (intro W hW; (try dsimp only at hW); go_simp; (try (with_reducible rfl)); done)); (try simp only [Act.put, List.setIfInBounds_toArray, List.set_cons_zero, List.set_cons_succ])))
      refine LexL.call (f := 65) (args := #[.pointer (some ⟨q, 0, none⟩), .agg #[.int .i64 kd2, .int .i64 nw, .int .i64 jb, .int .i64 tr, .int .i64 wk, .int .i64 tm], .int .i64 9]) (w1 := w3) (by rfl) (by decide) (by go_simp) ?_
      refine (vorder_sl q bp 115 [] v.d m kd2 nw jb tr wk tm 9 _ (H3.out.eq (by ac_rfl : _ = vrg q bp m * (plt bp 115 [] v.d * (cblk b bd bp (.slice (some ⟨gn, on, none⟩) pn.length cn) (.slice (some ⟨gv, ov, none⟩) pv.length cv) * (nrow (.slice (some ⟨gn, on, none⟩) pn.length cn) pn * (vrow (.slice (some ⟨gv, ov, none⟩) pv.length cv) pv * (bl g0 72 [.int .i64 1, .int .i64 k, .int .i64 kp, .int .i64 kd2, .int .i64 nw, .int .i64 jb, .int .i64 tr, .int .i64 wk, .int .i64 tm] * (nod p bd n' * (dsk bd d' * (RN * (RV * R))))))))))) HD2.out EM1.out EM3.out).mono ?_
      rw [show keepN 9 = 9 from rfl, HX2.out]
      rintro e w4 ⟨rfl, q4, h4⟩
      simp only [Ans.val]
      have h4 : Holds w4 (vrg q bp m' * (plt bp 115 [] f' * (cblk b bd bp (.slice (some ⟨gn, on, none⟩) pn.length cn) (.slice (some ⟨gv, ov, none⟩) pv.length cv) * (nrow (.slice (some ⟨gn, on, none⟩) pn.length cn) pn * (vrow (.slice (some ⟨gv, ov, none⟩) pv.length cv) pv * (bl g0 72 [.int .i64 1, .int .i64 k, .int .i64 kp, .int .i64 kd2, .int .i64 nw, .int .i64 jb, .int .i64 tr, .int .i64 wk, .int .i64 tm] * (nod p bd n' * (dsk bd d' * (RN * (RV * R)))))))))) := h4
      have H4 := Lib.hid (h4.eq (by ac_rfl : _ = cblk b bd bp (.slice (some ⟨gn, on, none⟩) pn.length cn) (.slice (some ⟨gv, ov, none⟩) pv.length cv) * (nrow (.slice (some ⟨gn, on, none⟩) pn.length cn) pn * (vrow (.slice (some ⟨gv, ov, none⟩) pv.length cv) pv * (bl g0 72 [.int .i64 1, .int .i64 k, .int .i64 kp, .int .i64 kd2, .int .i64 nw, .int .i64 jb, .int .i64 tr, .int .i64 wk, .int .i64 tm] * (vrg q bp m' * (plt bp 115 [] f' * (nod p bd n' * (dsk bd d' * (RN * (RV * R)))))))))))
      have Q4 := Lib.hid (Q3.out.trans q4)
      refine ⟨_, rfl, MKS.out _ _ H4.out, ?_⟩
      clear h4 q4
      obtain ⟨yy, heq, hyy⟩ := ans_eq x1 x2 x3 y1 y2 y3
      try simp only [Act.put, List.setIfInBounds_toArray, List.set_cons_zero, List.set_cons_succ]
      repeat (first | (refine LexL.none (by rfl) ?_; (try simp only [Act.put, List.setIfInBounds_toArray, List.set_cons_zero, List.set_cons_succ])) | (refine LexL.still (v := ?_) (by rfl) ?_ ?_; rotate_left; (focus (intro W hW; (try dsimp only at hW); go_simp; (try (with_reducible rfl)); done)); (try simp only [Act.put, List.setIfInBounds_toArray, List.set_cons_zero, List.set_cons_succ])))
      refine LexL.done ?_
      go_wp2
      go_ret
      have hg1 := OK.out.g1.order HN.out ⟨kd2, nw, jb, tr, wk, tm⟩
      have hg2 := OK.out.g2.order HM.out ⟨kd2, nw, jb, tr, wk, tm⟩
      rw [HX1.out] at hg1
      rw [HX2.out] at hg2
      have hep := order_ep c.d v.d n m ⟨kd2, nw, jb, tr, wk, tm⟩ 9 9 OK.out.ep
      rw [HX1.out, HX2.out] at hep
      refine ⟨(.slice (some ⟨gn, on, none⟩) pn.length cn), (.slice (some ⟨gv, ov, none⟩) pv.length cv), pn, pv, ⟨d', c.ns.set K n'⟩, ⟨f', v.ns.set K m'⟩, _, rfl, Q4.out, ?_, ⟨hg1, hg2, hep, by simpa using OK.out.ln, by simpa using OK.out.lv, by simpa using OK.out.nv⟩, fun e => ?_⟩
      · unfold CH nls vls
        dsimp only
        rw [HRN2.out, HRV2.out]
        exact (H4.out.eq (by ac_rfl : _ = bl g0 72 [.int .i64 1, .int .i64 k, .int .i64 kp, .int .i64 kd2, .int .i64 nw, .int .i64 jb, .int .i64 tr, .int .i64 wk, .int .i64 tm] * (cblk b bd bp (.slice (some ⟨gn, on, none⟩) pn.length cn) (.slice (some ⟨gv, ov, none⟩) pv.length cv) * (dsk bd d' * (plt bp 115 [] f' * (nrow (.slice (some ⟨gn, on, none⟩) pn.length cn) pn * (vrow (.slice (some ⟨gv, ov, none⟩) pv.length cv) pv * ((nod p bd n' * RN) * ((vrg q bp m' * RV) * R))))))))).right
      · subst e
        have hnm : n = m := Option.some.inj (HN.out.symm.trans HM.out)
        subst hnm
        have := HX1.out.symm.trans HX2.out
        simp only [Prod.mk.injEq, Ans.mk.injEq] at this
        obtain ⟨rfl, rfl, rfl, rfl, rfl⟩ := this
        exact ⟨rfl, hyy rfl rfl rfl⟩
    · have hb1 : (do_ == 1) = false := by simpa using h1
      by_cases h2 : do_ = 2
      · subst h2
        have S1 := Lib.hid (MKS.out _ _ H2.out.drew)
        obtain ⟨⟨d', n', x1⟩, hX1⟩ : ∃ X, n.tear c.d ⟨kd2, nw, jb, tr, wk, tm⟩ (keepN kp) = X := ⟨_, rfl⟩
        obtain ⟨⟨f', m', y1⟩, hX2⟩ : ∃ X, m.tear v.d ⟨kd2, nw, jb, tr, wk, tm⟩ (keepN kp) = X := ⟨_, rfl⟩
        have HX1 := Lib.hid hX1; have HX2 := Lib.hid hX2
        clear hX1 hX2
        go_wp2_with fail
        clear c1 c2 c3 c4
        try simp only [hK, hK2]
        refine wp_region_lex (fun W => (∀ o, W.cell? ⟨b, o, none⟩ = ([.pointer (some ⟨bd, 0, none⟩), .pointer (some ⟨bp, 0, none⟩), (.slice (some ⟨gn, on, none⟩) pn.length cn), (.slice (some ⟨gv, ov, none⟩) pv.length cv)] : List Value)[o]?) ∧ W.cell? ⟨gn, on + K, none⟩ = some (.pointer (some ⟨p, 0, none⟩)) ∧ W.cell? ⟨gv, ov + K, none⟩ = some (.pointer (some ⟨q, 0, none⟩)) ∧ ∀ o, W.cell? ⟨g0, o, none⟩ = ([.int .i64 2, .int .i64 k, .int .i64 kp, .int .i64 kd2, .int .i64 nw, .int .i64 jb, .int .i64 tr, .int .i64 wk, .int .i64 tm] : List Value)[o]?) [11, 23] (by kernel_rfl) (by kernel_rfl) S1.out ?_
        repeat (first | (refine LexL.none (by rfl) ?_; (try simp only [Act.put, List.setIfInBounds_toArray, List.set_cons_zero, List.set_cons_succ])) | (refine LexL.still (v := ?_) (by rfl) ?_ ?_; rotate_left; (focus (intro W hW; (try dsimp only at hW); go_simp; (try (with_reducible rfl)); done)); (try simp only [Act.put, List.setIfInBounds_toArray, List.set_cons_zero, List.set_cons_succ])))
        refine LexL.call (f := 39) (args := #[.pointer (some ⟨p, 0, none⟩), .agg #[.int .i64 kd2, .int .i64 nw, .int .i64 jb, .int .i64 tr, .int .i64 wk, .int .i64 tm], .int .i64 kp]) (w1 := w1.drew) (by rfl) (by decide) (by go_simp) ?_
        refine (nTear_sl p bd c.d n kd2 nw jb tr wk tm kp _ (H2.out.drew.eq (by ac_rfl : _ = nod p bd n * (dsk bd c.d * (cblk b bd bp (.slice (some ⟨gn, on, none⟩) pn.length cn) (.slice (some ⟨gv, ov, none⟩) pv.length cv) * (nrow (.slice (some ⟨gn, on, none⟩) pn.length cn) pn * (vrow (.slice (some ⟨gv, ov, none⟩) pv.length cv) pv * (bl g0 72 [.int .i64 2, .int .i64 k, .int .i64 kp, .int .i64 kd2, .int .i64 nw, .int .i64 jb, .int .i64 tr, .int .i64 wk, .int .i64 tm] * (vrg q bp m * (plt bp 115 [] v.d * (RN * (RV * R))))))))))) HD1.out EN1.out EN3.out).mono ?_
        rw [HX1.out]
        rintro e w3 ⟨rfl, q3, h3⟩
        dsimp only
        have h3 : Holds w3 (nod p bd n' * (dsk bd d' * (cblk b bd bp (.slice (some ⟨gn, on, none⟩) pn.length cn) (.slice (some ⟨gv, ov, none⟩) pv.length cv) * (nrow (.slice (some ⟨gn, on, none⟩) pn.length cn) pn * (vrow (.slice (some ⟨gv, ov, none⟩) pv.length cv) pv * (bl g0 72 [.int .i64 2, .int .i64 k, .int .i64 kp, .int .i64 kd2, .int .i64 nw, .int .i64 jb, .int .i64 tr, .int .i64 wk, .int .i64 tm] * (vrg q bp m * (plt bp 115 [] v.d * (RN * (RV * R)))))))))) := h3
        have H3 := Lib.hid (h3.eq (by ac_rfl : _ = cblk b bd bp (.slice (some ⟨gn, on, none⟩) pn.length cn) (.slice (some ⟨gv, ov, none⟩) pv.length cv) * (nrow (.slice (some ⟨gn, on, none⟩) pn.length cn) pn * (vrow (.slice (some ⟨gv, ov, none⟩) pv.length cv) pv * (bl g0 72 [.int .i64 2, .int .i64 k, .int .i64 kp, .int .i64 kd2, .int .i64 nw, .int .i64 jb, .int .i64 tr, .int .i64 wk, .int .i64 tm] * (vrg q bp m * (plt bp 115 [] v.d * (nod p bd n' * (dsk bd d' * (RN * (RV * R)))))))))))
        have Q3 := Lib.hid (Q2.out.drew.trans q3)
        refine ⟨_, rfl, MKS.out _ _ H3.out, ?_⟩
        clear h3 q3
        try simp only [Act.put, List.setIfInBounds_toArray, List.set_cons_zero, List.set_cons_succ]
        repeat (first | (refine LexL.none (by rfl) ?_; (try simp only [Act.put, List.setIfInBounds_toArray, List.set_cons_zero, List.set_cons_succ])) | (refine LexL.still (v := ?_) (by rfl) ?_ ?_; rotate_left; (focus (intro W hW; (try dsimp only at hW); go_simp; (try (with_reducible rfl)); done)); (try simp only [Act.put, List.setIfInBounds_toArray, List.set_cons_zero, List.set_cons_succ])))
        refine LexL.call (f := 66) (args := #[.pointer (some ⟨q, 0, none⟩), .agg #[.int .i64 kd2, .int .i64 nw, .int .i64 jb, .int .i64 tr, .int .i64 wk, .int .i64 tm], .int .i64 kp]) (w1 := w3) (by rfl) (by decide) (by go_simp) ?_
        refine (vtear_sl q bp 115 [] v.d m kd2 nw jb tr wk tm kp _ (H3.out.eq (by ac_rfl : _ = vrg q bp m * (plt bp 115 [] v.d * (cblk b bd bp (.slice (some ⟨gn, on, none⟩) pn.length cn) (.slice (some ⟨gv, ov, none⟩) pv.length cv) * (nrow (.slice (some ⟨gn, on, none⟩) pn.length cn) pn * (vrow (.slice (some ⟨gv, ov, none⟩) pv.length cv) pv * (bl g0 72 [.int .i64 2, .int .i64 k, .int .i64 kp, .int .i64 kd2, .int .i64 nw, .int .i64 jb, .int .i64 tr, .int .i64 wk, .int .i64 tm] * (nod p bd n' * (dsk bd d' * (RN * (RV * R))))))))))) HD2.out EM1.out EM3.out).mono ?_
        rw [HX2.out]
        rintro e w4 ⟨rfl, q4, h4⟩
        dsimp only
        have h4 : Holds w4 (vrg q bp m' * (plt bp 115 [] f' * (cblk b bd bp (.slice (some ⟨gn, on, none⟩) pn.length cn) (.slice (some ⟨gv, ov, none⟩) pv.length cv) * (nrow (.slice (some ⟨gn, on, none⟩) pn.length cn) pn * (vrow (.slice (some ⟨gv, ov, none⟩) pv.length cv) pv * (bl g0 72 [.int .i64 2, .int .i64 k, .int .i64 kp, .int .i64 kd2, .int .i64 nw, .int .i64 jb, .int .i64 tr, .int .i64 wk, .int .i64 tm] * (nod p bd n' * (dsk bd d' * (RN * (RV * R)))))))))) := h4
        have H4 := Lib.hid (h4.eq (by ac_rfl : _ = cblk b bd bp (.slice (some ⟨gn, on, none⟩) pn.length cn) (.slice (some ⟨gv, ov, none⟩) pv.length cv) * (nrow (.slice (some ⟨gn, on, none⟩) pn.length cn) pn * (vrow (.slice (some ⟨gv, ov, none⟩) pv.length cv) pv * (bl g0 72 [.int .i64 2, .int .i64 k, .int .i64 kp, .int .i64 kd2, .int .i64 nw, .int .i64 jb, .int .i64 tr, .int .i64 wk, .int .i64 tm] * (vrg q bp m' * (plt bp 115 [] f' * (nod p bd n' * (dsk bd d' * (RN * (RV * R)))))))))))
        have Q4 := Lib.hid (Q3.out.trans q4)
        refine ⟨_, rfl, MKS.out _ _ H4.out, ?_⟩
        clear h4 q4
        try simp only [Act.put, List.setIfInBounds_toArray, List.set_cons_zero, List.set_cons_succ]
        repeat (first | (refine LexL.none (by rfl) ?_; (try simp only [Act.put, List.setIfInBounds_toArray, List.set_cons_zero, List.set_cons_succ])) | (refine LexL.still (v := ?_) (by rfl) ?_ ?_; rotate_left; (focus (intro W hW; (try dsimp only at hW); go_simp; (try (with_reducible rfl)); done)); (try simp only [Act.put, List.setIfInBounds_toArray, List.set_cons_zero, List.set_cons_succ])))
        refine LexL.done ?_
        go_wp2
        go_ret
        have hg1 := OK.out.g1.tear HN.out ⟨kd2, nw, jb, tr, wk, tm⟩ kp
        have hg2 := OK.out.g2.tear HM.out ⟨kd2, nw, jb, tr, wk, tm⟩ kp
        rw [HX1.out] at hg1
        rw [HX2.out] at hg2
        have hep := tear_ep c.d v.d n m ⟨kd2, nw, jb, tr, wk, tm⟩ (keepN kp) (keepN kp) OK.out.ep
        rw [HX1.out, HX2.out] at hep
        refine ⟨(.slice (some ⟨gn, on, none⟩) pn.length cn), (.slice (some ⟨gv, ov, none⟩) pv.length cv), pn, pv, ⟨d', c.ns.set K n'⟩, ⟨f', v.ns.set K m'⟩, _, rfl, Q4.out, ?_, ⟨hg1, hg2, hep, by simpa using OK.out.ln, by simpa using OK.out.lv, by simpa using OK.out.nv⟩, fun e => ?_⟩
        · unfold CH nls vls
          dsimp only
          rw [HRN2.out, HRV2.out]
          exact (H4.out.eq (by ac_rfl : _ = bl g0 72 [.int .i64 2, .int .i64 k, .int .i64 kp, .int .i64 kd2, .int .i64 nw, .int .i64 jb, .int .i64 tr, .int .i64 wk, .int .i64 tm] * (cblk b bd bp (.slice (some ⟨gn, on, none⟩) pn.length cn) (.slice (some ⟨gv, ov, none⟩) pv.length cv) * (dsk bd d' * (plt bp 115 [] f' * (nrow (.slice (some ⟨gn, on, none⟩) pn.length cn) pn * (vrow (.slice (some ⟨gv, ov, none⟩) pv.length cv) pv * ((nod p bd n' * RN) * ((vrg q bp m' * RV) * R))))))))).right
        · subst e
          have hnm : n = m := Option.some.inj (HN.out.symm.trans HM.out)
          subst hnm
          have := HX1.out.symm.trans HX2.out
          simp only [Prod.mk.injEq] at this
          obtain ⟨rfl, rfl, rfl⟩ := this
          exact ⟨rfl, by simp⟩
      · have hb2 : (do_ == 2) = false := by simpa using h2
        by_cases h3 : do_ = 3
        · subst h3
          clear h1 h2
          go_wp2_with fail
          try simp only [hK, hK2]
          refine (nStop_sl p bd n _ (H2.out.eq (by ac_rfl : _ = nod p bd n * (cblk b bd bp (.slice (some ⟨gn, on, none⟩) pn.length cn) (.slice (some ⟨gv, ov, none⟩) pv.length cv) * (nrow (.slice (some ⟨gn, on, none⟩) pn.length cn) pn * (vrow (.slice (some ⟨gv, ov, none⟩) pv.length cv) pv * (bl g0 72 [.int .i64 3, .int .i64 k, .int .i64 kp, .int .i64 kd2, .int .i64 nw, .int .i64 jb, .int .i64 tr, .int .i64 wk, .int .i64 tm] * (dsk bd c.d * (vrg q bp m * (plt bp 115 [] v.d * (RN * (RV * R))))))))))) ).mono ?_
          rintro e w3 ⟨rfl, q3, h3⟩
          have h3 : Holds w3 (nod p bd ⟨n.t, n.ep, true⟩ * (cblk b bd bp (.slice (some ⟨gn, on, none⟩) pn.length cn) (.slice (some ⟨gv, ov, none⟩) pv.length cv) * (nrow (.slice (some ⟨gn, on, none⟩) pn.length cn) pn * (vrow (.slice (some ⟨gv, ov, none⟩) pv.length cv) pv * (bl g0 72 [.int .i64 3, .int .i64 k, .int .i64 kp, .int .i64 kd2, .int .i64 nw, .int .i64 jb, .int .i64 tr, .int .i64 wk, .int .i64 tm] * (dsk bd c.d * (vrg q bp m * (plt bp 115 [] v.d * (RN * (RV * R)))))))))) := h3
          have H3 := Lib.hid (h3.eq (by ac_rfl : _ = cblk b bd bp (.slice (some ⟨gn, on, none⟩) pn.length cn) (.slice (some ⟨gv, ov, none⟩) pv.length cv) * (nrow (.slice (some ⟨gn, on, none⟩) pn.length cn) pn * (vrow (.slice (some ⟨gv, ov, none⟩) pv.length cv) pv * (bl g0 72 [.int .i64 3, .int .i64 k, .int .i64 kp, .int .i64 kd2, .int .i64 nw, .int .i64 jb, .int .i64 tr, .int .i64 wk, .int .i64 tm] * (nod p bd ⟨n.t, n.ep, true⟩ * (dsk bd c.d * (vrg q bp m * (plt bp 115 [] v.d * (RN * (RV * R)))))))))))
          have Q3 := Lib.hid (Q2.out.trans q3)
          clear c1 c2 c3 c4 h3 q3
          obtain ⟨c1, c2, c3, c4⟩ := MKS.out _ _ H3.out
          have HV := Lib.hid (H3.out.eq (by unfold vrg; ac_rfl : _ = bl q 124 (gcl bp m) * (cblk b bd bp (.slice (some ⟨gn, on, none⟩) pn.length cn) (.slice (some ⟨gv, ov, none⟩) pv.length cv) * (nrow (.slice (some ⟨gn, on, none⟩) pn.length cn) pn * (vrow (.slice (some ⟨gv, ov, none⟩) pv.length cv) pv * (bl g0 72 [.int .i64 3, .int .i64 k, .int .i64 kp, .int .i64 kd2, .int .i64 nw, .int .i64 jb, .int .i64 tr, .int .i64 wk, .int .i64 tm] * (nod p bd ⟨n.t, n.ep, true⟩ * (dsk bd c.d * (plt bp 115 [] v.d * (RN * (RV * R)))))))))))
          have fv := HV.out.bl.frees
          have lv := HV.out.bl.lt
          have v27 := HV.out.bl.cell 27 _ (gcl_down bp m)
          go_wp2
          go_ret
          refine ⟨(.slice (some ⟨gn, on, none⟩) pn.length cn), (.slice (some ⟨gv, ov, none⟩) pv.length cv), pn, pv, ⟨c.d, c.ns.set K ⟨n.t, n.ep, true⟩⟩, ⟨v.d, v.ns.set K ⟨m.t, m.ep, true⟩⟩, true, rfl, Q3.out.setCell _ _, ?_, ⟨OK.out.g1.stop HN.out, OK.out.g2.stop HM.out, OK.out.ep, by simpa using OK.out.ln, by simpa using OK.out.lv, by simpa using OK.out.nv⟩, fun e => ?_⟩
          · unfold CH nls vls
            dsimp only
            rw [HRN2.out, HRV2.out]
            have h9 := HV.out.setB 27 (.bool true)
            rw [gcl_setDown] at h9
            exact (h9.eq (by unfold vrg; ac_rfl : _ = bl g0 72 [.int .i64 3, .int .i64 k, .int .i64 kp, .int .i64 kd2, .int .i64 nw, .int .i64 jb, .int .i64 tr, .int .i64 wk, .int .i64 tm] * (cblk b bd bp (.slice (some ⟨gn, on, none⟩) pn.length cn) (.slice (some ⟨gv, ov, none⟩) pv.length cv) * (dsk bd c.d * (plt bp 115 [] v.d * (nrow (.slice (some ⟨gn, on, none⟩) pn.length cn) pn * (vrow (.slice (some ⟨gv, ov, none⟩) pv.length cv) pv * ((nod p bd ⟨n.t, n.ep, true⟩ * RN) * ((vrg q bp ⟨m.t, m.ep, true⟩ * RV) * R))))))))).right
          · subst e
            have hnm : n = m := Option.some.inj (HN.out.symm.trans HM.out)
            subst hnm
            exact ⟨rfl, rfl⟩
        · have hb3 : (do_ == 3) = false := by simpa using h3
          clear h1 h2 h3
          go_wp2
          go_ret
          exact ⟨(.slice (some ⟨gn, on, none⟩) pn.length cn), (.slice (some ⟨gv, ov, none⟩) pv.length cv), pn, pv, c, v, true, rfl, Q2.out, (by unfold CH nls vls; rw [show lst (fun p n => nod p bd n) pn c.ns = nod p bd n * RN from by have := HRN2.out n; rwa [show c.ns.set K n = c.ns from set_same HN.out] at this, show lst (fun p n => vrg p bp n) pv v.ns = vrg q bp m * RV from by have := HRV2.out m; rwa [show v.ns.set K m = v.ns from set_same HM.out] at this]; exact (H2.out.eq (by ac_rfl : _ = bl g0 72 [.int .i64 do_, .int .i64 k, .int .i64 kp, .int .i64 kd2, .int .i64 nw, .int .i64 jb, .int .i64 tr, .int .i64 wk, .int .i64 tm] * (cblk b bd bp (.slice (some ⟨gn, on, none⟩) pn.length cn) (.slice (some ⟨gv, ov, none⟩) pv.length cv) * (dsk bd c.d * (plt bp 115 [] v.d * (nrow (.slice (some ⟨gn, on, none⟩) pn.length cn) pn * (vrow (.slice (some ⟨gv, ov, none⟩) pv.length cv) pv * ((nod p bd n * RN) * ((vrg q bp m * RV) * R))))))))).right), OK.out, fun e => ⟨e, rfl⟩⟩
end Go.Proofs.Ytfihmpkkpgmdhab
