/-
  A crew's step, walked: one is opened.
-/
import Derived.Test.YtfihmpkkpgmdhabCrewA
import Derived.Test.YtfihmpkkpgmdhabLexM
namespace Go.Proofs.Ytfihmpkkpgmdhab
set_option maxRecDepth 100000
set_option linter.unusedSimpArgs false
set_option linter.unusedVariables false
open Go.RowKit
def CPost (w : World) (b bd bp : Nat) (c v : Crw) (R : HP) (e : Ending) (w' : World) : Prop :=
  ∃ (vn vv : Value) (pn pv : List Nat) (c' v' : Crw) (y : Bool), e = .returned (.bool y) ∧ Quiet w w' ∧ Holds w' (CH b bd bp vn vv pn pv c' v' R) ∧ Cok pn pv c' v' ∧ (c = v → c' = v' ∧ y = true)
section
variable {P : Program}
theorem exec_append_row {w : World} {o : Oper} {a : Act} (s x : Operand) (t : TypeId)
    (ho : o.op = .call { callee := .builtin .append, args := #[s, x], argTypes := #[t, t] })
    (e : TypeId) (i : TypeInfo) (z : Value) (size bytes : Nat) (ht : P.underlying t = some (.slice e)) (hi : P.info? e = some i) (hz : i.zero = some z) (hsz : i.size = size) (hby : i.bytes = bytes) (hzs : z.cells.size = size) (hs0 : 0 < size)
    {v y : Value} {n m : Nat} {xs ys : List Value} {R : HP} (hs : a.eval s = v) (hx : a.eval x = y) (hv : Holds w (rw_ e size v n xs * R)) (hy : RowAt w y m ys) (hyl : ys.length = m * size) (hy1 : Ones ys) (hlen : (n + m) * bytes ≤ 140737488355328) (hnm : n + m ≤ 140737488355328) :
    ∃ v' w', (execOp a.eval o).run P w = .ok (.value v') w' ∧ Holds w' (rw_ e size v' (n + m) (xs ++ ys) * R) ∧ Quiet w w' := by
  obtain ⟨F, ⟨hown, rfl⟩, hn⟩ := hv.open
  obtain ⟨v', w', hr, h2, h3, h4⟩ := run_append_row (P := P) t o.type e i z size bytes ht hi hz hsz hby hzs hs0 hown hy hyl hy1 hlen hnm
  refine ⟨v', w', ?_, hn w' _ _ ⟨h2, rfl⟩ h3 h4, Quiet.upd h3⟩
  unfold execOp
  simp only [ho, resolve, invoke, builtin, Sem.run_bind, Sem.run_pure, Result.andThen_ok, List.map_toArray, List.map_cons, List.map_nil, hs, hx, hr]
theorem LexKL.append {ops : Array Oper} {S : World → Prop} {sw : Nat} {path : List Nat} {fz : Nat → Option (TypeId × List Value × (Nat → Value))} {Q : Exit → Act → World → Prop} {w0 : World} {i : Nat} {o : Oper} {rest : List Oper} {a : Act} {A B : HP} (s x : Operand) (t : TypeId)
    (ho : o.op = .call { callee := .builtin .append, args := #[s, x], argTypes := #[t, t] })
    (e : TypeId) (ti : TypeInfo) (z : Value) (size bytes : Nat) (ht : P.underlying t = some (.slice e)) (hi : P.info? e = some ti) (hz : ti.zero = some z) (hsz : ti.size = size) (hby : ti.bytes = bytes) (hzs : z.cells.size = size) (hs0 : 0 < size)
    {v y : Value} {n m : Nat} {xs ys : List Value} (hs : a.eval s = v) (hx : a.eval x = y) (hf : fz i = none) (hw : Region.wanted o (yielded ops a.tmps) = true) (hp : i ∈ path)
    (hA : A = rw_ e size v n xs * B) (hrow : ∀ w R, Holds w (A * R) → RowAt w y m ys) (hyl : ys.length = m * size) (hy1 : Ones ys) (hlen : (n + m) * bytes ≤ 140737488355328) (hnm : n + m ≤ 140737488355328)
    (hS : ∀ w R v', Holds w (rw_ e size v' (n + m) (xs ++ ys) * B * R) → S w)
    (h : ∀ v', LexKL P ops S sw path fz Q w0 (i + 1) rest (a.put o.dst v') (rw_ e size v' (n + m) (xs ++ ys) * B)) : LexKL P ops S sw path fz Q w0 i (o :: rest) a A := by
  subst hA
  refine LexKL.val hf hw hp fun w R hSw hq hA => ?_
  obtain ⟨v', w', hex, hh, hq'⟩ := exec_append_row (P := P) s x t ho e ti z size bytes ht hi hz hsz hby hzs hs0 hs hx (hA.eq (HP.assoc _ _ _)) (hrow w R hA) hyl hy1 hlen hnm
  have hh' := hh.eq (HP.assoc _ _ _).symm
  exact ⟨v', w', _, hex, fun _ => hS _ _ _ hh', hq.trans hq', hh', h v'⟩
end
theorem alloc_cells {w : World} {b : Nat} {cs : List Value} {u : Value} (h : ∀ p, w.cell? ⟨b, p, none⟩ = cs[p]?) (hn : cs[0]? = some u) (o : Obj) : ∀ p, (w.alloc o).cell? ⟨b, p, none⟩ = cs[p]? := fun p => by
  have hlt : b < w.heap.size := block_lt_of_cell ((h 0).trans hn)
  rw [World.cell?_of_block (Below.heap_alloc w o b hlt)]
  exact h p
theorem sOf_get {ops : Array Oper} {S : World → Prop} {sw i : Nat} {w : World} (h1 : ¬ sw < i) (h2 : hasEdge ops sw i = true) (h : sOf ops S sw i w) : S w := by
  unfold sOf at h
  rw [if_neg h1, if_pos h2] at h
  exact h
theorem bl_row {w : World} {q : Nat} {e : TypeId} {u : Value} {R : HP} (h : Holds w (bl q e [u] * R)) : RowAt w (.slice (some ⟨q, 0, none⟩) 1 1) 1 [u] := by
  have hb := h.bl
  refine ⟨some ⟨q, 0, none⟩, 1, rfl, Nat.le_refl _, by unfold maxLen; omega, (fun e => by cases e), fun _ => ⟨q, 0, rfl, fun j u' hj => ?_⟩⟩
  rw [Nat.zero_add]
  exact hb.cell j u' hj
theorem Try.infoPN : (Try.prog.info? 79).map (fun i => (i.zero, i.size, i.bytes)) = some (some (.pointer none), 1, 8) := by kernel_rfl
theorem Try.infoPV : (Try.prog.info? 119).map (fun i => (i.zero, i.size, i.bytes)) = some (some (.pointer none), 1, 8) := by kernel_rfl
theorem opened_cok {pn pv : List Nat} {c v : Crw} (ok : Cok pn pv c v) (hc : ¬ 100 ≤ c.d.ep) : Cok pn pv ⟨(opened c.d).1, c.ns⟩ ⟨(opened v.d).1, v.ns⟩ :=
  ⟨ok.g1.openNo hc, ok.g2.openNo (by rw [← ok.ep]; exact hc), by dsimp only; rw [opened_yes hc, opened_yes (by rw [← ok.ep]; exact hc)]; dsimp only; rw [ok.ep], ok.ln, ok.lv, ok.nv⟩
theorem opened_cok8 {pn pv : List Nat} {c v : Crw} (ok : Cok pn pv c v) (hc : ¬ 100 ≤ c.d.ep) (h8 : c.ns.length < 8) (bn bv : Nat) : Cok (pn ++ [bn]) (pv ++ [bv]) ⟨(opened c.d).1, c.ns ++ [⟨behind (found c.d), c.d.ep + 1, false⟩]⟩ ⟨(opened v.d).1, v.ns ++ [⟨behind (found v.d), v.d.ep + 1, false⟩]⟩ :=
  ⟨ok.g1.openKeep hc h8, ok.g2.openKeep (by rw [← ok.ep]; exact hc) (by rw [← ok.nv]; exact h8), by dsimp only; rw [opened_yes hc, opened_yes (by rw [← ok.ep]; exact hc)]; dsimp only; rw [ok.ep], by simp [ok.ln], by simp [ok.lv], by simp [ok.nv]⟩
set_option maxHeartbeats 8000000 in
theorem cstep_open (b bd bp : Nat) (vn vv : Value) (pn pv : List Nat) (c v : Crw) (k kp kd2 nw jb tr wk tm : Int) (w : World) {R : HP} (h : Holds w (CH b bd bp vn vv pn pv c v R)) (ok : Cok pn pv c v) :
    Calls Try.prog 35 #[.pointer (some ⟨b, 0, none⟩), .agg #[.int .i64 0, .int .i64 k, .int .i64 kp, .int .i64 kd2, .int .i64 nw, .int .i64 jb, .int .i64 tr, .int .i64 wk, .int .i64 tm]] w (CPost w b bd bp c v R) := by
  obtain ⟨w0, hw0, H0, Q0⟩ : ∃ w0, w.alloc (.cells #[.int .i64 0, .int .i64 k, .int .i64 kp, .int .i64 kd2, .int .i64 nw, .int .i64 jb, .int .i64 tr, .int .i64 wk, .int .i64 tm] 72) = w0 ∧ Hid (Holds w0 (CH b bd bp vn vv pn pv c v (bl w.heap.size 72 [.int .i64 0, .int .i64 k, .int .i64 kp, .int .i64 kd2, .int .i64 nw, .int .i64 jb, .int .i64 tr, .int .i64 wk, .int .i64 tm] * R))) ∧ Hid (Quiet w w0) :=
    ⟨_, rfl, Lib.hid ((h.boxB (ty := 72) (cs := [.int .i64 0, .int .i64 k, .int .i64 kp, .int .i64 kd2, .int .i64 nw, .int .i64 jb, .int .i64 tr, .int .i64 wk, .int .i64 tm]) rfl).eq (by unfold CH; ac_rfl)), Lib.hid ((Quiet.refl w).alloc _)⟩
  clear h
  obtain ⟨g0, hg0⟩ : ∃ g0, w.heap.size = g0 := ⟨_, rfl⟩
  rw [hg0] at H0
  have cc0 := (show BlockAt w0 b 78 [.pointer (some ⟨bd, 0, none⟩), .pointer (some ⟨bp, 0, none⟩), vn, vv] from H0.out.bl).cells
  have cx0 := (H0.out.eq (by unfold CH; ac_rfl : _ = bl g0 72 [.int .i64 0, .int .i64 k, .int .i64 kp, .int .i64 kd2, .int .i64 nw, .int .i64 jb, .int .i64 tr, .int .i64 wk, .int .i64 tm] * CH b bd bp vn vv pn pv c v R)).bl.cells
  have OK := Lib.hid ok
  by_cases hc : 100 ≤ c.d.ep
  · have HC := Lib.hid hc; have HC2 := Lib.hid (show 100 ≤ v.d.ep by rw [← ok.ep]; exact hc)
    clear hc ok
    go_enter Try.func35, Try.ntmps35
    go_wp2_with fail
    clear hw0 hg0 cx0
    refine (nOpen_full bd c.d _ H0.out.two OK.out.g1.dok (by have := HC.out; omega)).mono ?_
    rintro e w1 ⟨rfl, q1, h1⟩
    have H1 := Lib.hid (show Holds w1 (CH b bd bp vn vv pn pv c v (bl g0 72 [.int .i64 0, .int .i64 k, .int .i64 kp, .int .i64 kd2, .int .i64 nw, .int .i64 jb, .int .i64 tr, .int .i64 wk, .int .i64 tm] * R)) from (show Holds w1 (dsk bd c.d * (cblk b bd bp vn vv * (plt bp 115 [] v.d * (nrow vn pn * (vrow vv pv * (nls bd pn c.ns * (vls bp pv v.ns * (bl g0 72 [.int .i64 0, .int .i64 k, .int .i64 kp, .int .i64 kd2, .int .i64 nw, .int .i64 jb, .int .i64 tr, .int .i64 wk, .int .i64 tm] * R)))))))) from h1).two)
    have Q1 := Lib.hid (Q0.out.trans q1)
    have cc1 := (show BlockAt w1 b 78 [.pointer (some ⟨bd, 0, none⟩), .pointer (some ⟨bp, 0, none⟩), vn, vv] from H1.out.bl).cells
    clear h1 q1 cc0
    go_wp2_with fail
    refine (popened_full bp 115 [] v.d _ H1.out.three OK.out.g2.dok (by have := HC2.out; omega)).mono ?_
    rintro e w2 ⟨rfl, q2, h2⟩
    have H2 := Lib.hid (show Holds w2 (CH b bd bp vn vv pn pv c v (bl g0 72 [.int .i64 0, .int .i64 k, .int .i64 kp, .int .i64 kd2, .int .i64 nw, .int .i64 jb, .int .i64 tr, .int .i64 wk, .int .i64 tm] * R)) from (show Holds w2 (plt bp 115 [] v.d * (cblk b bd bp vn vv * (dsk bd c.d * (nrow vn pn * (vrow vv pv * (nls bd pn c.ns * (vls bp pv v.ns * (bl g0 72 [.int .i64 0, .int .i64 k, .int .i64 kp, .int .i64 kd2, .int .i64 nw, .int .i64 jb, .int .i64 tr, .int .i64 wk, .int .i64 tm] * R)))))))) from h2).eq (by unfold CH; ac_rfl))
    have Q2 := Lib.hid (Q1.out.trans q2)
    clear h2 q2 cc1
    go_wp2
    go_ret
    exact ⟨vn, vv, pn, pv, c, v, true, rfl, Q2.out, (H2.out.eq (by unfold CH; ac_rfl : _ = bl g0 72 [.int .i64 0, .int .i64 k, .int .i64 kp, .int .i64 kd2, .int .i64 nw, .int .i64 jb, .int .i64 tr, .int .i64 wk, .int .i64 tm] * CH b bd bp vn vv pn pv c v R)).right, OK.out, fun e => ⟨e, rfl⟩⟩
  · have HC := Lib.hid hc; have HC2 := Lib.hid (show ¬ 100 ≤ v.d.ep by rw [← ok.ep]; exact hc)
    clear hc ok
    obtain ⟨n1, hn1⟩ : ∃ n1 : Nod, n1 = ⟨behind (found c.d), c.d.ep + 1, false⟩ := ⟨_, rfl⟩
    obtain ⟨n2, hn2⟩ : ∃ n2 : Nod, n2 = ⟨behind (found v.d), v.d.ep + 1, false⟩ := ⟨_, rfl⟩
    obtain ⟨d1, hd1⟩ : ∃ d1, (opened c.d).1 = d1 := ⟨_, rfl⟩
    obtain ⟨d2, hd2⟩ : ∃ d2, (opened v.d).1 = d2 := ⟨_, rfl⟩
    have N1 := Lib.hid hn1; have N2 := Lib.hid hn2; have D1 := Lib.hid hd1; have D2 := Lib.hid hd2
    clear hn1 hn2 hd1 hd2
    go_enter Try.func35, Try.ntmps35
    go_wp2_with fail
    clear hw0 hg0 cx0
    refine (nOpen_sl bd c.d _ H0.out.two OK.out.g1.dok (by have := HC.out; omega)).mono ?_
    rw [← N1.out, D1.out]
    rintro e w1 ⟨bn, rfl, q1, h1⟩
    have H1 := Lib.hid ((show Holds w1 (nod bn bd n1 * (dsk bd d1 * (cblk b bd bp vn vv * (plt bp 115 [] v.d * (nrow vn pn * (vrow vv pv * (nls bd pn c.ns * (vls bp pv v.ns * (bl g0 72 [.int .i64 0, .int .i64 k, .int .i64 kp, .int .i64 kd2, .int .i64 nw, .int .i64 jb, .int .i64 tr, .int .i64 wk, .int .i64 tm] * R))))))))) from h1).eq (by ac_rfl : _ = cblk b bd bp vn vv * (plt bp 115 [] v.d * (nod bn bd n1 * (dsk bd d1 * (nrow vn pn * (vrow vv pv * (nls bd pn c.ns * (vls bp pv v.ns * (bl g0 72 [.int .i64 0, .int .i64 k, .int .i64 kp, .int .i64 kd2, .int .i64 nw, .int .i64 jb, .int .i64 tr, .int .i64 wk, .int .i64 tm] * R)))))))))) 
    have Q1 := Lib.hid (Q0.out.trans q1)
    have cc1 := (show BlockAt w1 b 78 [.pointer (some ⟨bd, 0, none⟩), .pointer (some ⟨bp, 0, none⟩), vn, vv] from H1.out.bl).cells
    clear h1 q1 cc0
    go_wp2_with fail
    refine (popened_sl bp 115 [] v.d _ H1.out.two OK.out.g2.dok (by have := HC2.out; omega)).mono ?_
    rw [← N2.out, D2.out]
    rintro e w2 ⟨bv, rfl, q2, h2⟩
    have h2 := (show Holds w2 (vrg bv bp n2 * (plt bp 115 [] d2 * (cblk b bd bp vn vv * (nod bn bd n1 * (dsk bd d1 * (nrow vn pn * (vrow vv pv * (nls bd pn c.ns * (vls bp pv v.ns * (bl g0 72 [.int .i64 0, .int .i64 k, .int .i64 kp, .int .i64 kd2, .int .i64 nw, .int .i64 jb, .int .i64 tr, .int .i64 wk, .int .i64 tm] * R)))))))))) from h2)
    obtain ⟨an, cn, rfl, _, _⟩ := (h2.eq (by ac_rfl : _ = nrow vn pn * (vrg bv bp n2 * (plt bp 115 [] d2 * (cblk b bd bp vn vv * (nod bn bd n1 * (dsk bd d1 * (vrow vv pv * (nls bd pn c.ns * (vls bp pv v.ns * (bl g0 72 [.int .i64 0, .int .i64 k, .int .i64 kp, .int .i64 kd2, .int .i64 nw, .int .i64 jb, .int .i64 tr, .int .i64 wk, .int .i64 tm] * R))))))))))).row.shape
    obtain ⟨av, cv, rfl, _, _⟩ := (h2.eq (by ac_rfl : _ = vrow vv pv * (vrg bv bp n2 * (plt bp 115 [] d2 * (cblk b bd bp (.slice an pn.length cn) vv * (nod bn bd n1 * (dsk bd d1 * (nrow (.slice an pn.length cn) pn * (nls bd pn c.ns * (vls bp pv v.ns * (bl g0 72 [.int .i64 0, .int .i64 k, .int .i64 kp, .int .i64 kd2, .int .i64 nw, .int .i64 jb, .int .i64 tr, .int .i64 wk, .int .i64 tm] * R))))))))))).row.shape
    obtain ⟨RR, hRR⟩ : ∃ RR, nod bn bd n1 * (vrg bv bp n2 * (dsk bd d1 * (plt bp 115 [] d2 * (nls bd pn c.ns * (vls bp pv v.ns * (bl g0 72 [.int .i64 0, .int .i64 k, .int .i64 kp, .int .i64 kd2, .int .i64 nw, .int .i64 jb, .int .i64 tr, .int .i64 wk, .int .i64 tm] * R)))))) = RR := ⟨_, rfl⟩
    have H2 := Lib.hid (h2.eq (by rw [← hRR]; ac_rfl : _ = cblk b bd bp (.slice an pn.length cn) (.slice av pv.length cv) * (nrow (.slice an pn.length cn) pn * (vrow (.slice av pv.length cv) pv * RR))))
    have HR := Lib.hid hRR
    have Q2 := Lib.hid (Q1.out.trans q2)
    have cc2 := (show BlockAt w2 b 78 [.pointer (some ⟨bd, 0, none⟩), .pointer (some ⟨bp, 0, none⟩), (.slice an pn.length cn), (.slice av pv.length cv)] from H2.out.bl).cells
    have hln := OK.out.ln
    clear h2 q2 cc1 hRR H1 Q1
    by_cases h8 : pn.length < 8
    · have h8' : (pn.length : Int) < 8 := by omega
      obtain ⟨i1, hi1, hz11, hz12, hz13⟩ := info_parts Try.infoPN
      obtain ⟨i2, hi2, hz21, hz22, hz23⟩ := info_parts Try.infoPV
      have HI1 := Lib.hid (And.intro hi1 (And.intro hz11 (And.intro hz12 hz13))); have HI2 := Lib.hid (And.intro hi2 (And.intro hz21 (And.intro hz22 hz23)))
      clear hi1 hz11 hz12 hz13 hi2 hz21 hz22 hz23
      have hb8 : decide ((pn.length : Int) < 8) = true := by simpa using h8'
      have hpv : pv.length < 8 := by rw [OK.out.lv, ← OK.out.nv, ← hln]; exact h8
      go_wp2_with fail
      have HD := Lib.hid H2.out.drew
      refine wp_region_lexK (sw := 18) (fun W => ∀ o, W.cell? ⟨b, o, none⟩ = ([.pointer (some ⟨bd, 0, none⟩), .pointer (some ⟨bp, 0, none⟩), (.slice an pn.length cn), (.slice av pv.length cv)] : List Value)[o]?) [7, 8, 15, 18, 21] [14] (fz1 14 119 [.pointer (some ⟨bv, 0, none⟩)] (fun q => .slice (some ⟨q, 0, none⟩) 1 1)) _ (by kernel_rfl) (by kernel_rfl) (by kernel_rfl) fz1_fl fz1_no (fz1_free rfl rfl) (by kernel_rfl) (fun W o h => ?_) cc2 HD.out ?_
      · exact alloc_cells h rfl o
      repeat (first | (refine LexKL.still (v := ?_) (by rfl) (by rfl) ?_ ?_; rotate_left; (focus (intro W hW; clear hW; go_simp; (try (with_reducible rfl)); done)); try simp only [Act.put, List.setIfInBounds_toArray, List.set_cons_zero, List.set_cons_succ]))
      refine LexKL.still (v := (.slice an pn.length cn)) (by rfl) (by rfl) (fun W hW => ?_) ?_
      · have hW2 := sOf_get (by decide) (by kernel_rfl) hW
        clear hW
        go_simp
      try simp only [Act.put, List.setIfInBounds_toArray, List.set_cons_zero, List.set_cons_succ]
      repeat (first | (refine LexKL.still (v := ?_) (by rfl) (by rfl) ?_ ?_; rotate_left; (focus (intro W hW; clear hW; go_simp; (try (with_reducible rfl)); done)); try simp only [Act.put, List.setIfInBounds_toArray, List.set_cons_zero, List.set_cons_succ]))
      -- buildSlice of the node
      refine LexKL.val rfl (by rfl) (by decide) ?_
      intro w3 R3 hS3 hq3 hA3
      refine ⟨.slice (some ⟨w3.heap.size, 0, none⟩) 1 1, w3.alloc (.cells #[.pointer (some ⟨bn, 0, none⟩)] 79), bl w3.heap.size 79 [.pointer (some ⟨bn, 0, none⟩)] * (cblk b bd bp (.slice an pn.length cn) (.slice av pv.length cv) * (nrow (.slice an pn.length cn) pn * (vrow (.slice av pv.length cv) pv * RR))), by go_simp, fun e => alloc_cells (hS3 rfl) rfl _, hq3.alloc _, (hA3.boxB (ty := 79) (cs := [.pointer (some ⟨bn, 0, none⟩)]) rfl).eq (by ac_rfl), ?_⟩
      obtain ⟨s1, hs1⟩ : ∃ s1, w3.heap.size = s1 := ⟨_, rfl⟩
      rw [hs1]
      clear hs1 hS3 hq3 hA3
      try simp only [Act.put, List.setIfInBounds_toArray, List.set_cons_zero, List.set_cons_succ]
      refine LexKL.append (.tmp 54) (.tmp 56) 75 rfl 79 i1 _ 1 8 Try.underlying75 HI1.out.1 HI1.out.2.1 HI1.out.2.2.1 HI1.out.2.2.2 rfl (by decide) (v := (.slice an pn.length cn)) (y := .slice (some ⟨s1, 0, none⟩) 1 1) (n := pn.length) (m := 1) (xs := pvs pn) (ys := [.pointer (some ⟨bn, 0, none⟩)]) (B := bl s1 79 [.pointer (some ⟨bn, 0, none⟩)] * (cblk b bd bp (.slice an pn.length cn) (.slice av pv.length cv) * (vrow (.slice av pv.length cv) pv * RR))) rfl rfl rfl (by rfl) (by decide) (by unfold nrow; ac_rfl) (fun W R1 hA => bl_row (hA.eq (by ac_rfl : _ = bl s1 79 [.pointer (some ⟨bn, 0, none⟩)] * (cblk b bd bp (.slice an pn.length cn) (.slice av pv.length cv) * (nrow (.slice an pn.length cn) pn * (vrow (.slice av pv.length cv) pv * (RR * R1))))))) rfl (pvs_ones [bn]) (by omega) (by omega) (fun W R1 v' hA => (show BlockAt W b 78 [.pointer (some ⟨bd, 0, none⟩), .pointer (some ⟨bp, 0, none⟩), (.slice an pn.length cn), (.slice av pv.length cv)] from (hA.eq (by ac_rfl : _ = cblk b bd bp (.slice an pn.length cn) (.slice av pv.length cv) * (bl s1 79 [.pointer (some ⟨bn, 0, none⟩)] * (rw_ 79 1 v' (pn.length + 1) (pvs pn ++ [.pointer (some ⟨bn, 0, none⟩)]) * (vrow (.slice av pv.length cv) pv * (RR * R1)))))).bl).cells) ?_
      intro vn'
      try simp only [Act.put, List.setIfInBounds_toArray, List.set_cons_zero, List.set_cons_succ]
      repeat (first | (refine LexKL.still (v := ?_) (by rfl) (by rfl) ?_ ?_; rotate_left; (focus (intro W hW; clear hW; go_simp; (try (with_reducible rfl)); done)); try simp only [Act.put, List.setIfInBounds_toArray, List.set_cons_zero, List.set_cons_succ]))
      refine LexKL.still (v := (.slice av pv.length cv)) (by rfl) (by rfl) (fun W hW => ?_) ?_
      · have hW2 := sOf_get (by decide) (by kernel_rfl) hW
        clear hW
        go_simp
      try simp only [Act.put, List.setIfInBounds_toArray, List.set_cons_zero, List.set_cons_succ]
      repeat (first | (refine LexKL.still (v := ?_) (by rfl) (by rfl) ?_ ?_; rotate_left; (focus (intro W hW; clear hW; go_simp; (try (with_reducible rfl)); done)); try simp only [Act.put, List.setIfInBounds_toArray, List.set_cons_zero, List.set_cons_succ]))
      -- buildSlice of the verger
      refine LexKL.made rfl (fun W => by go_simp) ?_
      intro s2 hlv
      clear hlv
      try simp only [Act.put, List.setIfInBounds_toArray, List.set_cons_zero, List.set_cons_succ]
      refine LexKL.append (.tmp 61) (.tmp 63) 76 rfl 119 i2 _ 1 8 Try.underlying76 HI2.out.1 HI2.out.2.1 HI2.out.2.2.1 HI2.out.2.2.2 rfl (by decide) (v := (.slice av pv.length cv)) (y := .slice (some ⟨s2, 0, none⟩) 1 1) (n := pv.length) (m := 1) (xs := pvs pv) (ys := [.pointer (some ⟨bv, 0, none⟩)]) (B := bl s2 119 [.pointer (some ⟨bv, 0, none⟩)] * (bl s1 79 [.pointer (some ⟨bn, 0, none⟩)] * (cblk b bd bp (.slice an pn.length cn) (.slice av pv.length cv) * (rw_ 79 1 vn' (pn.length + 1) (pvs pn ++ [.pointer (some ⟨bn, 0, none⟩)]) * RR)))) rfl rfl rfl (by rfl) (by decide) (by unfold vrow; ac_rfl) (fun W R1 hA => bl_row (hA.eq (by ac_rfl : _ = bl s2 119 [.pointer (some ⟨bv, 0, none⟩)] * (bl s1 79 [.pointer (some ⟨bn, 0, none⟩)] * (cblk b bd bp (.slice an pn.length cn) (.slice av pv.length cv) * (rw_ 79 1 vn' (pn.length + 1) (pvs pn ++ [.pointer (some ⟨bn, 0, none⟩)]) * (vrow (.slice av pv.length cv) pv * (RR * R1)))))))) rfl (pvs_ones [bv]) (by omega) (by omega) (fun W R1 v' hA => (show BlockAt W b 78 [.pointer (some ⟨bd, 0, none⟩), .pointer (some ⟨bp, 0, none⟩), (.slice an pn.length cn), (.slice av pv.length cv)] from (hA.eq (by ac_rfl : _ = cblk b bd bp (.slice an pn.length cn) (.slice av pv.length cv) * (bl s2 119 [.pointer (some ⟨bv, 0, none⟩)] * (bl s1 79 [.pointer (some ⟨bn, 0, none⟩)] * (rw_ 79 1 vn' (pn.length + 1) (pvs pn ++ [.pointer (some ⟨bn, 0, none⟩)]) * (rw_ 119 1 v' (pv.length + 1) (pvs pv ++ [.pointer (some ⟨bv, 0, none⟩)]) * (RR * R1))))))).bl).cells) ?_
      intro vv'
      try simp only [Act.put, List.setIfInBounds_toArray, List.set_cons_zero, List.set_cons_succ]
      repeat (first | (refine LexKL.still (v := ?_) (by rfl) (by rfl) ?_ ?_; rotate_left; (focus (intro W hW; clear hW; go_simp; (try (with_reducible rfl)); done)); try simp only [Act.put, List.setIfInBounds_toArray, List.set_cons_zero, List.set_cons_succ]))
      refine LexKL.store (A' := cblk b bd bp vn' (.slice av pv.length cv) * (bl s2 119 [.pointer (some ⟨bv, 0, none⟩)] * (bl s1 79 [.pointer (some ⟨bn, 0, none⟩)] * (rw_ 79 1 vn' (pn.length + 1) (pvs pn ++ [.pointer (some ⟨bn, 0, none⟩)]) * (rw_ 119 1 vv' (pv.length + 1) (pvs pv ++ [.pointer (some ⟨bv, 0, none⟩)]) * RR))))) rfl (by rfl) (by decide) (fun w8 R8 hS8 hq8 hA8 => ⟨w8.setCell ⟨b, 2, none⟩ vn', ?_, (fun e => by cases e), hq8.setCell _ _, ?_⟩) ?_
      · have hb := (show BlockAt w8 b 78 [.pointer (some ⟨bd, 0, none⟩), .pointer (some ⟨bp, 0, none⟩), (.slice an pn.length cn), (.slice av pv.length cv)] from (hA8.eq (by ac_rfl : _ = cblk b bd bp (.slice an pn.length cn) (.slice av pv.length cv) * ((bl s2 119 [.pointer (some ⟨bv, 0, none⟩)] * (bl s1 79 [.pointer (some ⟨bn, 0, none⟩)] * (rw_ 79 1 vn' (pn.length + 1) (pvs pn ++ [.pointer (some ⟨bn, 0, none⟩)]) * (rw_ 119 1 vv' (pv.length + 1) (pvs pv ++ [.pointer (some ⟨bv, 0, none⟩)]) * RR)))) * R8))).bl)
        have f8 := hb.frees
        have c8 := hb.cells
        have l8 := hb.lt
        obtain ⟨a9, c9, e9, _, _⟩ := (hA8.eq (by ac_rfl : _ = rw_ 79 1 vn' (pn.length + 1) (pvs pn ++ [.pointer (some ⟨bn, 0, none⟩)]) * (cblk b bd bp (.slice an pn.length cn) (.slice av pv.length cv) * (bl s2 119 [.pointer (some ⟨bv, 0, none⟩)] * (bl s1 79 [.pointer (some ⟨bn, 0, none⟩)] * (rw_ 119 1 vv' (pv.length + 1) (pvs pv ++ [.pointer (some ⟨bv, 0, none⟩)]) * (RR * R8))))))).row.shape
        subst e9
        go_simp
      · exact (Holds.setB (hA8.eq (by unfold cblk; ac_rfl : _ = bl b 78 [.pointer (some ⟨bd, 0, none⟩), .pointer (some ⟨bp, 0, none⟩), (.slice an pn.length cn), (.slice av pv.length cv)] * ((bl s2 119 [.pointer (some ⟨bv, 0, none⟩)] * (bl s1 79 [.pointer (some ⟨bn, 0, none⟩)] * (rw_ 79 1 vn' (pn.length + 1) (pvs pn ++ [.pointer (some ⟨bn, 0, none⟩)]) * (rw_ 119 1 vv' (pv.length + 1) (pvs pv ++ [.pointer (some ⟨bv, 0, none⟩)]) * RR)))) * R8))) 2 vn').eq (HP.assoc _ _ _).symm
      try simp only [Act.put, List.setIfInBounds_toArray, List.set_cons_zero, List.set_cons_succ]
      repeat (first | (refine LexKL.still (v := ?_) (by rfl) (by rfl) ?_ ?_; rotate_left; (focus (intro W hW; clear hW; go_simp; (try (with_reducible rfl)); done)); try simp only [Act.put, List.setIfInBounds_toArray, List.set_cons_zero, List.set_cons_succ]))
      refine LexKL.store (A' := cblk b bd bp vn' vv' * (bl s2 119 [.pointer (some ⟨bv, 0, none⟩)] * (bl s1 79 [.pointer (some ⟨bn, 0, none⟩)] * (rw_ 79 1 vn' (pn.length + 1) (pvs pn ++ [.pointer (some ⟨bn, 0, none⟩)]) * (rw_ 119 1 vv' (pv.length + 1) (pvs pv ++ [.pointer (some ⟨bv, 0, none⟩)]) * RR))))) rfl (by rfl) (by decide) (fun w8 R8 hS8 hq8 hA8 => ⟨w8.setCell ⟨b, 3, none⟩ vv', ?_, (fun e => by cases e), hq8.setCell _ _, ?_⟩) ?_
      · have hb := (hA8.eq (HP.assoc _ _ _)).bl
        have f8 := hb.frees
        have c8 := hb.cells
        have l8 := hb.lt
        obtain ⟨a9, c9, e9, _, _⟩ := (hA8.eq (by ac_rfl : _ = rw_ 119 1 vv' (pv.length + 1) (pvs pv ++ [.pointer (some ⟨bv, 0, none⟩)]) * (cblk b bd bp vn' (.slice av pv.length cv) * (bl s2 119 [.pointer (some ⟨bv, 0, none⟩)] * (bl s1 79 [.pointer (some ⟨bn, 0, none⟩)] * (rw_ 79 1 vn' (pn.length + 1) (pvs pn ++ [.pointer (some ⟨bn, 0, none⟩)]) * (RR * R8))))))).row.shape
        subst e9
        go_simp
      · exact ((hA8.eq (HP.assoc _ _ _)).setB 3 vv').eq (HP.assoc _ _ _).symm
      try simp only [Act.put, List.setIfInBounds_toArray, List.set_cons_zero, List.set_cons_succ]
      refine LexKL.done ?_
      intro w9 hA9 hq9
      go_wp2
      go_ret
      refine ⟨vn', vv', pn ++ [bn], pv ++ [bv], _, _, true, rfl, Q2.out.drew.trans hq9, ?_, opened_cok8 OK.out (by have := HC.out; omega) (by rw [← OK.out.ln]; exact h8) bn bv, fun e => ⟨by rw [e], rfl⟩⟩
      have h9 : Holds w9 ((bl g0 72 [.int .i64 0, .int .i64 k, .int .i64 kp, .int .i64 kd2, .int .i64 nw, .int .i64 jb, .int .i64 tr, .int .i64 wk, .int .i64 tm] * (bl s2 119 [.pointer (some ⟨bv, 0, none⟩)] * bl s1 79 [.pointer (some ⟨bn, 0, none⟩)])) * (cblk b bd bp vn' vv' * (dsk bd d1 * (plt bp 115 [] d2 * (rw_ 79 1 vn' (pn.length + 1) (pvs pn ++ [.pointer (some ⟨bn, 0, none⟩)]) * (rw_ 119 1 vv' (pv.length + 1) (pvs pv ++ [.pointer (some ⟨bv, 0, none⟩)]) * ((nod bn bd n1 * lst (fun p n => nod p bd n) pn c.ns) * ((vrg bv bp n2 * lst (fun p n => vrg p bp n) pv v.ns) * R)))))))) := hA9.eq (by rw [← HR.out]; unfold nls vls; ac_rfl)
      have h10 := h9.right
      unfold CH nls vls nrow vrow
      rw [show (pn ++ [bn]).length = pn.length + 1 by simp, show (pv ++ [bv]).length = pv.length + 1 by simp, show pvs (pn ++ [bn]) = pvs pn ++ [.pointer (some ⟨bn, 0, none⟩)] by simp [pvs], show pvs (pv ++ [bv]) = pvs pv ++ [.pointer (some ⟨bv, 0, none⟩)] by simp [pvs], lst_snoc _ _ _ _ _ OK.out.ln, lst_snoc _ _ _ _ _ OK.out.lv, ← N1.out, ← N2.out, D1.out, D2.out]
      exact h10
    · have h8' : ¬ (pn.length : Int) < 8 := by omega
      have hb8 : decide ((pn.length : Int) < 8) = false := by simpa using h8'
      go_wp2
      go_ret
      refine ⟨(.slice an pn.length cn), (.slice av pv.length cv), pn, pv, _, _, true, rfl, Q2.out, ?_, opened_cok OK.out (by have := HC.out; omega), fun e => ⟨by rw [e], rfl⟩⟩
      have h9 : Holds w2 ((bl g0 72 [.int .i64 0, .int .i64 k, .int .i64 kp, .int .i64 kd2, .int .i64 nw, .int .i64 jb, .int .i64 tr, .int .i64 wk, .int .i64 tm] * (nod bn bd n1 * vrg bv bp n2)) * (cblk b bd bp (.slice an pn.length cn) (.slice av pv.length cv) * (dsk bd d1 * (plt bp 115 [] d2 * (nrow (.slice an pn.length cn) pn * (vrow (.slice av pv.length cv) pv * (nls bd pn c.ns * (vls bp pv v.ns * R)))))))) := H2.out.eq (by rw [← HR.out]; ac_rfl)
      have h10 := h9.right
      unfold CH
      rw [D1.out, D2.out]
      exact h10
end Go.Proofs.Ytfihmpkkpgmdhab
