/-
  A crew's same, walked: two like crews tell the same.
-/
import Derived.Test.YtfihmpkkpgmdhabCrewD
namespace Go.Proofs.Ytfihmpkkpgmdhab
set_option linter.unusedSimpArgs false
set_option linter.unusedVariables false
open Go.RowKit
/-- A plate whose bytes stand in the slice v. -/
def pltv (v : Value) (b : Nat) (ty : TypeId) (rest : List Value) (d : Dsk) : HP where
  on F w := ty ≠ 5 ∧ BlockAt w b ty (.int .i64 d.ep :: v :: rest) ∧ OwnB w v d.b ∧ F = fun k => k = b ∨ v.ownBlock = some k
  lt := fun ⟨ht, hb, hv, hF⟩ k hk => PlateAt.inW (d := d) (rest := rest) ⟨ht, v, hb, hv, hF⟩ k hk
  keep := by
    rintro F w w' ⟨ht, hb, hv, rfl⟩ hk
    refine ⟨ht, by unfold BlockAt at *; rw [hk b (.inl rfl)]; exact hb, ?_, rfl⟩
    exact ((ownb v d.b).keep (F := fun k => v.ownBlock = some k) ⟨hv, rfl⟩ fun k h => hk k (.inr h)).1
theorem plt_ex (b : Nat) (ty : TypeId) (rest : List Value) (d : Dsk) : plt b ty rest d = HP.ex fun v => pltv v b ty rest d := HP.ext' fun F w =>
  ⟨fun h => by obtain ⟨ht, v, hb, hv, hF⟩ := h; exact ⟨v, ht, hb, hv, hF⟩, fun h => by obtain ⟨v, ht, hb, hv, hF⟩ := h; exact ⟨ht, v, hb, hv, hF⟩⟩
theorem plt_open {b : Nat} {ty : TypeId} {rest : List Value} {d : Dsk} {w : World} {R : HP} (h : Holds w (plt b ty rest d * R)) : ∃ v, Holds w (pltv v b ty rest d * R) := by
  rw [plt_ex] at h
  exact HP.ex_mul h
theorem plt_close {v : Value} {b : Nat} {ty : TypeId} {rest : List Value} {d : Dsk} {w : World} {R : HP} (h : Holds w (pltv v b ty rest d * R)) : Holds w (plt b ty rest d * R) := by
  rw [plt_ex]
  exact HP.mul_ex (A := fun v => pltv v b ty rest d) h
theorem pltv_bl {v : Value} {b : Nat} {ty : TypeId} {rest : List Value} {d : Dsk} {w : World} {R : HP} (h : Holds w (pltv v b ty rest d * R)) : BlockAt w b ty (.int .i64 d.ep :: v :: rest) ∧ BytesAt w v d.b := by
  obtain ⟨F, _, hb, hv, _⟩ := h.left
  exact ⟨hb, hv.bytes⟩
set_option maxRecDepth 100000 in
set_option maxHeartbeats 8000000 in
theorem csame_sl (b bd bp : Nat) (vn vv : Value) (pn pv : List Nat) (c : Crw) (w : World) {R : HP} (h : Holds w (CH b bd bp vn vv pn pv c c R)) (ok : Cok pn pv c c) :
    Calls Try.prog 46 #[.pointer (some ⟨b, 0, none⟩)] w fun e w' => e = .returned (.bool true) ∧ Quiet w w' ∧ Holds w' (CH b bd bp vn vv pn pv c c R) := by
  obtain ⟨an, cn, rfl, _, _⟩ := (h.eq (by unfold CH; ac_rfl : _ = nrow vn pn * (cblk b bd bp vn vv * (dsk bd c.d * (plt bp 115 [] c.d * (vrow vv pv * (nls bd pn c.ns * (vls bp pv c.ns * R)))))))).row.shape
  obtain ⟨av, cv, rfl, _, _⟩ := (h.eq (by unfold CH; ac_rfl : _ = vrow vv pv * (cblk b bd bp (.slice an pn.length cn) vv * (dsk bd c.d * (plt bp 115 [] c.d * (nrow (.slice an pn.length cn) pn * (nls bd pn c.ns * (vls bp pv c.ns * R)))))))).row.shape
  obtain ⟨vB, h0⟩ := plt_open (h.eq (by unfold CH; ac_rfl : _ = (plt bp 115 [] c.d * (cblk b bd bp (.slice an pn.length cn) (.slice av pv.length cv) * (dsk bd c.d * (nrow (.slice an pn.length cn) pn * (vrow (.slice av pv.length cv) pv * (nls bd pn c.ns * (vls bp pv c.ns * R)))))))))
  obtain ⟨hvb, hvs⟩ := pltv_bl h0
  obtain ⟨aB, cB, rfl, _, _⟩ := hvs.shape
  have H0 := Lib.hid (h0.eq (by ac_rfl : _ = (cblk b bd bp (.slice an pn.length cn) (.slice av pv.length cv) * (dsk bd c.d * (pltv (.slice aB c.d.b.length cB) bp 115 [] c.d * (nrow (.slice an pn.length cn) pn * (vrow (.slice av pv.length cv) pv * (nls bd pn c.ns * (vls bp pv c.ns * R)))))))))
  have OK := Lib.hid ok
  have hl8 : pn.length ≤ 8 := by rw [ok.ln]; exact ok.g1.2
  have hpv : pv.length = pn.length := by rw [ok.lv, ok.ln, ok.nv]
  have HPV := Lib.hid hpv
  obtain ⟨sb, hsb⟩ : ∃ sb, strOf c.d.b = sb := ⟨_, rfl⟩
  have HSB := Lib.hid hsb
  have mkS : ∀ (W : World) (A : HP), Holds W (pltv (.slice aB c.d.b.length cB) bp 115 [] c.d * (cblk b bd bp (.slice an pn.length cn) (.slice av pv.length cv) * A)) → (∀ o, W.cell? ⟨b, o, none⟩ = ([.pointer (some ⟨bd, 0, none⟩), .pointer (some ⟨bp, 0, none⟩), (.slice an pn.length cn), (.slice av pv.length cv)] : List Value)[o]?) ∧ W.cell? ⟨bp, 0, none⟩ = some (.int .i64 c.d.ep) ∧ W.cell? ⟨bp, 1, none⟩ = some (.slice aB c.d.b.length cB) ∧ (convert 44 9 (.slice aB c.d.b.length cB)).run Try.prog W = .ok (.string sb) W := by
    intro W A hW
    obtain ⟨hb, hs⟩ := pltv_bl hW
    exact ⟨(show BlockAt W b 78 [.pointer (some ⟨bd, 0, none⟩), .pointer (some ⟨bp, 0, none⟩), (.slice an pn.length cn), (.slice av pv.length cv)] from hW.right.bl).cells, hb.cell 0 _ rfl, hb.cell 1 _ rfl, by rw [← HSB.out]; exact run_string_bytes hs⟩
  have MKS := Lib.hid mkS
  have S1 := Lib.hid (mkS w.drew _ (H0.out.drew.eq (by ac_rfl : _ = (pltv (.slice aB c.d.b.length cB) bp 115 [] c.d * (cblk b bd bp (.slice an pn.length cn) (.slice av pv.length cv) * (dsk bd c.d * (nrow (.slice an pn.length cn) pn * (vrow (.slice av pv.length cv) pv * (nls bd pn c.ns * (vls bp pv c.ns * R))))))))))
  have cc0 := (show BlockAt w b 78 [.pointer (some ⟨bd, 0, none⟩), .pointer (some ⟨bp, 0, none⟩), (.slice an pn.length cn), (.slice av pv.length cv)] from H0.out.bl).cells
  clear h ok hpv hvb hvs h0 mkS hsb
  go_enter Try.func46, Try.ntmps46
  go_wp2_with fail
  clear cc0
  refine wp_region_lex (fun W => (∀ o, W.cell? ⟨b, o, none⟩ = ([.pointer (some ⟨bd, 0, none⟩), .pointer (some ⟨bp, 0, none⟩), (.slice an pn.length cn), (.slice av pv.length cv)] : List Value)[o]?) ∧ W.cell? ⟨bp, 0, none⟩ = some (.int .i64 c.d.ep) ∧ W.cell? ⟨bp, 1, none⟩ = some (.slice aB c.d.b.length cB) ∧ (convert 44 9 (.slice aB c.d.b.length cB)).run Try.prog W = .ok (.string sb) W) [4, 13, 18, 19] (by kernel_rfl) (by kernel_rfl) S1.out ?_
  repeat (first | (refine LexL.none (by rfl) ?_; (try simp only [Act.put, List.setIfInBounds_toArray, List.set_cons_zero, List.set_cons_succ])) | (refine LexL.still (v := ?_) (by rfl) ?_ ?_; rotate_left; (focus (intro W hW; (try dsimp only at hW); go_simp; (try (with_reducible rfl)); done)); (try simp only [Act.put, List.setIfInBounds_toArray, List.set_cons_zero, List.set_cons_succ])))
  refine LexL.call (f := 41) (args := #[.pointer (some ⟨bd, 0, none⟩)]) (w1 := w.drew) (by rfl) (by decide) (by go_simp) ?_
  refine (depoch_sl bd c.d _ H0.out.drew.two).mono ?_
  rintro e w1 ⟨rfl, rfl⟩
  refine ⟨_, rfl, S1.out, ?_⟩
  try simp only [Act.put, List.setIfInBounds_toArray, List.set_cons_zero, List.set_cons_succ]
  repeat (first | (refine LexL.none (by rfl) ?_; (try simp only [Act.put, List.setIfInBounds_toArray, List.set_cons_zero, List.set_cons_succ])) | (refine LexL.still (v := ?_) (by rfl) ?_ ?_; rotate_left; (focus (intro W hW; (try dsimp only at hW); go_simp; (try (with_reducible rfl)); done)); (try simp only [Act.put, List.setIfInBounds_toArray, List.set_cons_zero, List.set_cons_succ])))
  refine LexL.call (f := 37) (args := #[.pointer (some ⟨bd, 0, none⟩)]) (w1 := w.drew) (by rfl) (by decide) (by go_simp) ?_
  refine (bytes_sl bd c.d _ H0.out.drew.two OK.out.g1.dok).mono ?_
  rintro e w2 ⟨vb, rfl, q2, h2⟩
  have H2 := Lib.hid (show Holds w2 (ownb vb c.d.b * (dsk bd c.d * (cblk b bd bp (.slice an pn.length cn) (.slice av pv.length cv) * (pltv (.slice aB c.d.b.length cB) bp 115 [] c.d * (nrow (.slice an pn.length cn) pn * (vrow (.slice av pv.length cv) pv * (nls bd pn c.ns * (vls bp pv c.ns * R)))))))) from h2)
  have Q2 := Lib.hid ((Quiet.refl w).drew.trans q2)
  have S2 := Lib.hid (MKS.out w2 _ (H2.out.eq (by ac_rfl : _ = (pltv (.slice aB c.d.b.length cB) bp 115 [] c.d * (cblk b bd bp (.slice an pn.length cn) (.slice av pv.length cv) * (dsk bd c.d * (nrow (.slice an pn.length cn) pn * (vrow (.slice av pv.length cv) pv * (nls bd pn c.ns * (vls bp pv c.ns * (ownb vb c.d.b * R)))))))))))
  have hs2 := run_string_bytes H2.out.ownb.bytes
  rw [HSB.out] at hs2
  clear h2 q2
  refine ⟨_, rfl, S2.out, ?_⟩
  try simp only [Act.put, List.setIfInBounds_toArray, List.set_cons_zero, List.set_cons_succ]
  repeat (first | (refine LexL.none (by rfl) ?_; (try simp only [Act.put, List.setIfInBounds_toArray, List.set_cons_zero, List.set_cons_succ])) | (refine LexL.still (v := ?_) (by rfl) ?_ ?_; rotate_left; (focus (intro W hW; (try dsimp only at hW); go_simp; (try (with_reducible rfl)); done)); (try simp only [Act.put, List.setIfInBounds_toArray, List.set_cons_zero, List.set_cons_succ])))
  refine LexL.value (w1 := w2) (v := .string sb) (by rfl) (by decide) (by go_simp) S2.out ?_
  try simp only [Act.put, List.setIfInBounds_toArray, List.set_cons_zero, List.set_cons_succ]
  repeat (first | (refine LexL.none (by rfl) ?_; (try simp only [Act.put, List.setIfInBounds_toArray, List.set_cons_zero, List.set_cons_succ])) | (refine LexL.still (v := ?_) (by rfl) ?_ ?_; rotate_left; (focus (intro W hW; (try dsimp only at hW); go_simp; (try (with_reducible rfl)); done)); (try simp only [Act.put, List.setIfInBounds_toArray, List.set_cons_zero, List.set_cons_succ])))
  refine LexL.done ?_
  have H3 := Lib.hid (plt_close (H2.out.right.eq (by ac_rfl : _ = (pltv (.slice aB c.d.b.length cB) bp 115 [] c.d * (cblk b bd bp (.slice an pn.length cn) (.slice av pv.length cv) * (dsk bd c.d * (nrow (.slice an pn.length cn) pn * (vrow (.slice av pv.length cv) pv * (nls bd pn c.ns * (vls bp pv c.ns * R))))))))))
  clear H2 H0 S1 S2 MKS hs2
  go_wp2_with fail
  go_loopw [3] (fun i wr => ∃ k : Nat, k ≤ pn.length ∧ i = .int .i64 k ∧ Holds wr (CH b bd bp (.slice an pn.length cn) (.slice av pv.length cv) pn pv c c R) ∧ Quiet w wr) (fun i _ => pn.length - (intOf i).toNat)
  case atStart => exact ⟨0, by omega, rfl, H3.out.eq (by unfold CH; ac_rfl), Q2.out⟩
  case round =>
    obtain ⟨k, hk, rfl, hh, hq⟩ := hrel
    obtain ⟨wo, rfl⟩ : ∃ wo : World, wo = wr := ⟨_, rfl⟩
    have HH := Lib.hid hh; have HQ := Lib.hid hq; clear hh hq
    have cc := (show BlockAt wo b 78 [.pointer (some ⟨bd, 0, none⟩), .pointer (some ⟨bp, 0, none⟩), (.slice an pn.length cn), (.slice av pv.length cv)] from HH.out.bl).cells
    by_cases hlt : k < pn.length
    · obtain ⟨n, hn⟩ : ∃ n, c.ns[k]? = some n := ⟨_, List.getElem?_eq_getElem (by rw [← OK.out.ln]; exact hlt)⟩
      obtain ⟨p, hp⟩ : ∃ p, pn[k]? = some p := ⟨_, List.getElem?_eq_getElem hlt⟩
      obtain ⟨q, hq⟩ : ∃ q, pv[k]? = some q := ⟨_, List.getElem?_eq_getElem (by rw [HPV.out]; exact hlt)⟩
      obtain ⟨RN, hRN, _⟩ := lst_pick (fun p n => nod p bd n) pn c.ns k p n hp hn
      obtain ⟨RV, hRV, _⟩ := lst_pick (fun p n => vrg p bp n) pv c.ns k q n hq hn
      have hki : (k : Int) < (pn.length : Int) := by omega
      have hkv : (k : Int) < (pv.length : Int) := by have := HPV.out; omega
      have hkvn : k < pv.length := by have := HPV.out; omega
      have H4 := Lib.hid (HH.out.eq (by unfold CH nls vls; rw [hRN, hRV]; ac_rfl : _ = (cblk b bd bp (.slice an pn.length cn) (.slice av pv.length cv) * (nrow (.slice an pn.length cn) pn * (vrow (.slice av pv.length cv) pv * (nod p bd n * (vrg q bp n * (dsk bd c.d * (plt bp 115 [] c.d * (RN * (RV * R)))))))))))
      obtain ⟨gn, on, cn', en, _, _, hcn⟩ := H4.out.two.row.get (by omega)
      simp only [Value.slice.injEq] at en
      obtain ⟨rfl, _, rfl⟩ := en
      obtain ⟨gv, ov, cv', ev, _, _, hcv⟩ := H4.out.three.row.get (by omega)
      simp only [Value.slice.injEq] at ev
      obtain ⟨rfl, _, rfl⟩ := ev
      have cp := hcn _ _ (pvs_get pn hp)
      have cq := hcv _ _ (pvs_get pv hq)
      have bq := (show BlockAt wo q 124 (gcl bp n) from (H4.out.eq (by ac_rfl : _ = (vrg q bp n * (cblk b bd bp (.slice (some ⟨gn, on, none⟩) pn.length cn) (.slice (some ⟨gv, ov, none⟩) pv.length cv) * (nrow (.slice (some ⟨gn, on, none⟩) pn.length cn) pn * (vrow (.slice (some ⟨gv, ov, none⟩) pv.length cv) pv * (nod p bd n * (dsk bd c.d * (plt bp 115 [] c.d * (RN * (RV * R))))))))))).bl)
      have q24 := bq.cell 24 (.int .i64 n.t.now) rfl
      have q26 := bq.cell 26 (.int .i64 n.ep) rfl
      have q27 := bq.cell 27 (.bool n.down) rfl
      obtain ⟨bt, h5⟩ := nod_open (H4.out.eq (by ac_rfl : _ = (nod p bd n * (cblk b bd bp (.slice (some ⟨gn, on, none⟩) pn.length cn) (.slice (some ⟨gv, ov, none⟩) pv.length cv) * (nrow (.slice (some ⟨gn, on, none⟩) pn.length cn) pn * (vrow (.slice (some ⟨gv, ov, none⟩) pv.length cv) pv * (vrg q bp n * (dsk bd c.d * (plt bp 115 [] c.d * (RN * (RV * R)))))))))))
      have H5 := Lib.hid (h5.eq (by ac_rfl : _ = (cblk b bd bp (.slice (some ⟨gn, on, none⟩) pn.length cn) (.slice (some ⟨gv, ov, none⟩) pv.length cv) * (nrow (.slice (some ⟨gn, on, none⟩) pn.length cn) pn * (vrow (.slice (some ⟨gv, ov, none⟩) pv.length cv) pv * (nblk p bt bd n * (tab bt n.t * (vrg q bp n * (dsk bd c.d * (plt bp 115 [] c.d * (RN * (RV * R))))))))))))
      have cn0 := (show BlockAt wo p 87 (ncells bt bd n) from H5.out.four.bl).cell 0 _ rfl
      have mkS : ∀ (W : World), Holds W (cblk b bd bp (.slice (some ⟨gn, on, none⟩) pn.length cn) (.slice (some ⟨gv, ov, none⟩) pv.length cv) * (nrow (.slice (some ⟨gn, on, none⟩) pn.length cn) pn * (vrow (.slice (some ⟨gv, ov, none⟩) pv.length cv) pv * (nblk p bt bd n * (tab bt n.t * (vrg q bp n * (dsk bd c.d * (plt bp 115 [] c.d * (RN * (RV * R)))))))))) → (∀ o, W.cell? ⟨b, o, none⟩ = ([.pointer (some ⟨bd, 0, none⟩), .pointer (some ⟨bp, 0, none⟩), (.slice (some ⟨gn, on, none⟩) pn.length cn), (.slice (some ⟨gv, ov, none⟩) pv.length cv)] : List Value)[o]?) ∧ W.cell? ⟨gn, on + k, none⟩ = some (.pointer (some ⟨p, 0, none⟩)) ∧ W.cell? ⟨gv, ov + k, none⟩ = some (.pointer (some ⟨q, 0, none⟩)) ∧ W.cell? ⟨p, 0, none⟩ = some (.pointer (some ⟨bt, 0, none⟩)) := by
        intro W hW
        refine ⟨(show BlockAt W b 78 [.pointer (some ⟨bd, 0, none⟩), .pointer (some ⟨bp, 0, none⟩), (.slice (some ⟨gn, on, none⟩) pn.length cn), (.slice (some ⟨gv, ov, none⟩) pv.length cv)] from hW.bl).cells, ?_, ?_, (show BlockAt W p 87 (ncells bt bd n) from hW.four.bl).cell 0 _ rfl⟩
        · obtain ⟨g', o', c', e, _, _, hc⟩ := hW.two.row.get (by omega)
          simp only [Value.slice.injEq, Option.some.injEq, Addr.mk.injEq, and_true] at e
          obtain ⟨⟨rfl, rfl⟩, _, rfl⟩ := e
          exact hc _ _ (pvs_get pn hp)
        · obtain ⟨g', o', c', e, _, _, hc⟩ := hW.three.row.get (by omega)
          simp only [Value.slice.injEq, Option.some.injEq, Addr.mk.injEq, and_true] at e
          obtain ⟨⟨rfl, rfl⟩, _, rfl⟩ := e
          exact hc _ _ (pvs_get pv hq)
      have MKS := Lib.hid mkS
      have HRN := Lib.hid hRN; have HRV := Lib.hid hRV
      clear hn hp hq hRN hRV hcn hcv bq h5 mkS
      have S6 := Lib.hid (show (∀ o, wo.drew.cell? ⟨b, o, none⟩ = ([.pointer (some ⟨bd, 0, none⟩), .pointer (some ⟨bp, 0, none⟩), (.slice (some ⟨gn, on, none⟩) pn.length cn), (.slice (some ⟨gv, ov, none⟩) pv.length cv)] : List Value)[o]?) ∧ wo.drew.cell? ⟨gn, on + k, none⟩ = some (.pointer (some ⟨p, 0, none⟩)) ∧ wo.drew.cell? ⟨gv, ov + k, none⟩ = some (.pointer (some ⟨q, 0, none⟩)) ∧ wo.drew.cell? ⟨p, 0, none⟩ = some (.pointer (some ⟨bt, 0, none⟩)) ∧ wo.drew.cell? ⟨q, 24, none⟩ = some (.int .i64 n.t.now) ∧ wo.drew.cell? ⟨q, 26, none⟩ = some (.int .i64 n.ep) ∧ wo.drew.cell? ⟨q, 27, none⟩ = some (.bool n.down) from ⟨(MKS.out _ H5.out.drew).1, (MKS.out _ H5.out.drew).2.1, (MKS.out _ H5.out.drew).2.2.1, (MKS.out _ H5.out.drew).2.2.2, q24, q26, q27⟩)
      go_wp2_with fail
      refine wp_region_lex (fun W => (∀ o, W.cell? ⟨b, o, none⟩ = ([.pointer (some ⟨bd, 0, none⟩), .pointer (some ⟨bp, 0, none⟩), (.slice (some ⟨gn, on, none⟩) pn.length cn), (.slice (some ⟨gv, ov, none⟩) pv.length cv)] : List Value)[o]?) ∧ W.cell? ⟨gn, on + k, none⟩ = some (.pointer (some ⟨p, 0, none⟩)) ∧ W.cell? ⟨gv, ov + k, none⟩ = some (.pointer (some ⟨q, 0, none⟩)) ∧ W.cell? ⟨p, 0, none⟩ = some (.pointer (some ⟨bt, 0, none⟩)) ∧ W.cell? ⟨q, 24, none⟩ = some (.int .i64 n.t.now) ∧ W.cell? ⟨q, 26, none⟩ = some (.int .i64 n.ep) ∧ W.cell? ⟨q, 27, none⟩ = some (.bool n.down)) [7, 19, 27, 40, 51] (by kernel_rfl) (by kernel_rfl) S6.out ?_
      repeat (first | (refine LexL.none (by rfl) ?_; (try simp only [Act.put, List.setIfInBounds_toArray, List.set_cons_zero, List.set_cons_succ])) | (refine LexL.still (v := ?_) (by rfl) ?_ ?_; rotate_left; (focus (intro W hW; (try dsimp only at hW); go_simp; (try (with_reducible rfl)); done)); (try simp only [Act.put, List.setIfInBounds_toArray, List.set_cons_zero, List.set_cons_succ])))
      refine LexL.call (f := 42) (args := #[.pointer (some ⟨p, 0, none⟩)]) (w1 := wo.drew) (by rfl) (by decide) (by go_simp) ?_
      refine (nEpoch_sl p bd n _ (H4.out.drew.four)).mono ?_
      rintro e w6 ⟨rfl, rfl⟩
      refine ⟨_, rfl, S6.out, ?_⟩
      try simp only [Act.put, List.setIfInBounds_toArray, List.set_cons_zero, List.set_cons_succ]
      repeat (first | (refine LexL.none (by rfl) ?_; (try simp only [Act.put, List.setIfInBounds_toArray, List.set_cons_zero, List.set_cons_succ])) | (refine LexL.still (v := ?_) (by rfl) ?_ ?_; rotate_left; (focus (intro W hW; (try dsimp only at hW); go_simp; (try (with_reducible rfl)); done)); (try simp only [Act.put, List.setIfInBounds_toArray, List.set_cons_zero, List.set_cons_succ])))
      refine LexL.call (f := 40) (args := #[.pointer (some ⟨p, 0, none⟩)]) (w1 := wo.drew) (by rfl) (by decide) (by go_simp) ?_
      refine (nDown_sl p bd n _ (H4.out.drew.four)).mono ?_
      rintro e w6 ⟨rfl, rfl⟩
      refine ⟨_, rfl, S6.out, ?_⟩
      try simp only [Act.put, List.setIfInBounds_toArray, List.set_cons_zero, List.set_cons_succ]
      repeat (first | (refine LexL.none (by rfl) ?_; (try simp only [Act.put, List.setIfInBounds_toArray, List.set_cons_zero, List.set_cons_succ])) | (refine LexL.still (v := ?_) (by rfl) ?_ ?_; rotate_left; (focus (intro W hW; (try dsimp only at hW); go_simp; (try (with_reducible rfl)); done)); (try simp only [Act.put, List.setIfInBounds_toArray, List.set_cons_zero, List.set_cons_succ])))
      refine LexL.call (f := 17) (args := #[.pointer (some ⟨bt, 0, none⟩)]) (w1 := wo.drew) (by rfl) (by decide) (by go_simp) ?_
      refine (now_sl bt n.t _ (H5.out.drew.eq (by ac_rfl : _ = (tab bt n.t * (cblk b bd bp (.slice (some ⟨gn, on, none⟩) pn.length cn) (.slice (some ⟨gv, ov, none⟩) pv.length cv) * (nrow (.slice (some ⟨gn, on, none⟩) pn.length cn) pn * (vrow (.slice (some ⟨gv, ov, none⟩) pv.length cv) pv * (nblk p bt bd n * (vrg q bp n * (dsk bd c.d * (plt bp 115 [] c.d * (RN * (RV * R))))))))))))).mono ?_
      rintro e w6 ⟨rfl, rfl⟩
      refine ⟨_, rfl, S6.out, ?_⟩
      try simp only [Act.put, List.setIfInBounds_toArray, List.set_cons_zero, List.set_cons_succ]
      repeat (first | (refine LexL.none (by rfl) ?_; (try simp only [Act.put, List.setIfInBounds_toArray, List.set_cons_zero, List.set_cons_succ])) | (refine LexL.still (v := ?_) (by rfl) ?_ ?_; rotate_left; (focus (intro W hW; (try dsimp only at hW); go_simp; (try (with_reducible rfl)); done)); (try simp only [Act.put, List.setIfInBounds_toArray, List.set_cons_zero, List.set_cons_succ])))
      refine LexL.done ?_
      go_wp2_with fail
      clear q24 q26 q27 cp cq cn0 cc
      go_loopw [4] (fun i wr => ∃ m : Nat, m ≤ 6 ∧ i = .int .i64 m ∧ Holds wr (cblk b bd bp (.slice (some ⟨gn, on, none⟩) pn.length cn) (.slice (some ⟨gv, ov, none⟩) pv.length cv) * (nrow (.slice (some ⟨gn, on, none⟩) pn.length cn) pn * (vrow (.slice (some ⟨gv, ov, none⟩) pv.length cv) pv * (nblk p bt bd n * (tab bt n.t * (vrg q bp n * (dsk bd c.d * (plt bp 115 [] c.d * (RN * (RV * R)))))))))) ∧ Quiet w wr) (fun i _ => 6 - (intOf i).toNat)
      case atStart => exact ⟨0, by omega, rfl, H5.out.drew, HQ.out.drew⟩
      case round =>
        obtain ⟨m, hm, rfl, hh, hqu⟩ := hrel
        obtain ⟨wi, rfl⟩ : ∃ wi : World, wi = wr := ⟨_, rfl⟩
        have HHm := Lib.hid hh; have HQm := Lib.hid hqu; clear hh hqu
        by_cases hlt2 : m < 6
        · obtain ⟨⟨s1, s2, s3, s4⟩, hJ⟩ : ∃ J, n.t.job m = J := ⟨_, rfl⟩
          have HJ := Lib.hid hJ
          have hlt2' : (m : Int) < 6 := by omega
          clear hJ
          have S7 := Lib.hid (MKS.out _ HHm.out.drew)
          go_wp2_with fail
          refine wp_region_lex (fun W => (∀ o, W.cell? ⟨b, o, none⟩ = ([.pointer (some ⟨bd, 0, none⟩), .pointer (some ⟨bp, 0, none⟩), (.slice (some ⟨gn, on, none⟩) pn.length cn), (.slice (some ⟨gv, ov, none⟩) pv.length cv)] : List Value)[o]?) ∧ W.cell? ⟨gn, on + k, none⟩ = some (.pointer (some ⟨p, 0, none⟩)) ∧ W.cell? ⟨gv, ov + k, none⟩ = some (.pointer (some ⟨q, 0, none⟩)) ∧ W.cell? ⟨p, 0, none⟩ = some (.pointer (some ⟨bt, 0, none⟩))) [11, 22] (by kernel_rfl) (by kernel_rfl) S7.out ?_
          clear S7
          repeat (first | (refine LexL.none (by rfl) ?_; (try simp only [Act.put, List.setIfInBounds_toArray, List.set_cons_zero, List.set_cons_succ])) | (refine LexL.still (v := ?_) (by rfl) ?_ ?_; rotate_left; (focus (intro W hW; (try dsimp only at hW); go_simp; (try (with_reducible rfl)); done)); (try simp only [Act.put, List.setIfInBounds_toArray, List.set_cons_zero, List.set_cons_succ])))
          refine LexL.call (f := 18) (args := #[.pointer (some ⟨bt, 0, none⟩), .int .i64 m]) (w1 := wi.drew) (by rfl) (by decide) (by go_simp) ?_
          refine (job_sl bt n.t m _ (HHm.out.drew.eq (by ac_rfl : _ = (tab bt n.t * (cblk b bd bp (.slice (some ⟨gn, on, none⟩) pn.length cn) (.slice (some ⟨gv, ov, none⟩) pv.length cv) * (nrow (.slice (some ⟨gn, on, none⟩) pn.length cn) pn * (vrow (.slice (some ⟨gv, ov, none⟩) pv.length cv) pv * (nblk p bt bd n * (vrg q bp n * (dsk bd c.d * (plt bp 115 [] c.d * (RN * (RV * R))))))))))))).mono ?_
          rw [HJ.out]
          simp only [Job.val, jcells]
          rintro e w8 ⟨rfl, hb_⟩
          have H8 := Lib.hid (HHm.out.drew.below hb_); have Q8 := Lib.hid (HQm.out.drew.trans (Quiet.below hb_)); clear hb_
          refine ⟨_, rfl, MKS.out _ H8.out, ?_⟩
          try simp only [Act.put, List.setIfInBounds_toArray, List.set_cons_zero, List.set_cons_succ]
          repeat (first | (refine LexL.none (by rfl) ?_; (try simp only [Act.put, List.setIfInBounds_toArray, List.set_cons_zero, List.set_cons_succ])) | (refine LexL.still (v := ?_) (by rfl) ?_ ?_; rotate_left; (focus (intro W hW; (try dsimp only at hW); go_simp; (try (with_reducible rfl)); done)); (try simp only [Act.put, List.setIfInBounds_toArray, List.set_cons_zero, List.set_cons_succ])))
          refine LexL.call (f := 45) (args := #[.pointer (some ⟨q, 0, none⟩), .int .i64 m]) (w1 := w8) (by rfl) (by decide) (by go_simp) ?_
          refine (bjob_any q 124 [.pointer (some ⟨bp, 0, none⟩), .int .i64 n.ep, .bool n.down] n.t m _ (show BlockAt w8 q 124 (gcl bp n) from (H8.out.eq (by ac_rfl : _ = (vrg q bp n * (cblk b bd bp (.slice (some ⟨gn, on, none⟩) pn.length cn) (.slice (some ⟨gv, ov, none⟩) pv.length cv) * (nrow (.slice (some ⟨gn, on, none⟩) pn.length cn) pn * (vrow (.slice (some ⟨gv, ov, none⟩) pv.length cv) pv * (nblk p bt bd n * (tab bt n.t * (dsk bd c.d * (plt bp 115 [] c.d * (RN * (RV * R)))))))))))).bl)).mono ?_
          rw [HJ.out]
          simp only [Job.val, jcells]
          rintro e w9 ⟨rfl, hb_⟩
          have H9 := Lib.hid (H8.out.below hb_); have Q9 := Lib.hid (Q8.out.trans (Quiet.below hb_)); clear hb_
          refine ⟨_, rfl, MKS.out _ H9.out, ?_⟩
          try simp only [Act.put, List.setIfInBounds_toArray, List.set_cons_zero, List.set_cons_succ]
          repeat (first | (refine LexL.none (by rfl) ?_; (try simp only [Act.put, List.setIfInBounds_toArray, List.set_cons_zero, List.set_cons_succ])) | (refine LexL.still (v := ?_) (by rfl) ?_ ?_; rotate_left; (focus (intro W hW; (try dsimp only at hW); go_simp; (try (with_reducible rfl)); done)); (try simp only [Act.put, List.setIfInBounds_toArray, List.set_cons_zero, List.set_cons_succ])))
          refine LexL.done ?_
          go_wp2_with fail
          go_roundw
          case rel => exact ⟨m + 1, by omega, by go_num, H9.out, Q9.out⟩
          case measure => simp [intOf]; omega
        · obtain rfl : m = 6 := by omega
          go_wp2_with fail
          go_roundw
          case rel => exact ⟨k + 1, by omega, by go_num, (nod_close (HHm.out.eq (by ac_rfl : _ = (nblk p bt bd n * (tab bt n.t * (cblk b bd bp (.slice (some ⟨gn, on, none⟩) pn.length cn) (.slice (some ⟨gv, ov, none⟩) pv.length cv) * (nrow (.slice (some ⟨gn, on, none⟩) pn.length cn) pn * (vrow (.slice (some ⟨gv, ov, none⟩) pv.length cv) pv * (vrg q bp n * (dsk bd c.d * (plt bp 115 [] c.d * (RN * (RV * R))))))))))))).eq (by unfold CH nls vls; rw [HRN.out, HRV.out]; ac_rfl), HQm.out⟩
          case measure => simp [intOf]; omega
    · obtain rfl : k = pn.length := by omega
      go_wp2
      go_ret
      exact ⟨rfl, HQ.out, HH.out⟩
end Go.Proofs.Ytfihmpkkpgmdhab
