/-
  What the proof of DeskJoins leans on: plain definitions and laws, and contracts of functions that it reaches. No condition besides those that each theorem names.
-/
import Derived.Test.YtfihmpkkpgmdhaaGreatDoorZJj
import Derived.Test.YtfihmpkkpgmdhaaGreatDoorZJg
/-
  desk.ask: the log.
-/
namespace Go.Proofs.YtfihmpkkpgmdhaaGreatDoor
set_option maxRecDepth 100000
set_option linter.unusedSimpArgs false
set_option linter.unusedVariables false
set_option linter.unnecessarySimpa false
open Go.RowKit
theorem logTxt_take (l : List Ev) (k : Nat) (e : Ev) (h : l[k]? = some e) : logTxt (l.take (k + 1)) = logTxt (l.take k) ++ line (evTxt e) := by
  rw [List.take_add_one, h, ← logTxt_snoc]
  rfl
set_option maxHeartbeats 16000000 in
theorem ask_log (b bg bd : Nat) (vs : Nat → Value) (told : List UInt8) (d : Dsk) (now : Int) (v : Value) (w : World) {w0 : World} {RN R : HP}
    (h : Holds w (kst b bg told * (gblk bg bd vs now * (dsk bd d * (RN * (inum v [] * (lay w0 * R))))))) (hd : d.Ok) (ht : told.length ≤ 300000000) :
    Calls Tryz.prog 27 #[.pointer (some ⟨b, 0, none⟩), .string (strOf tLog), v] w fun e w' => e = .returned (.bool true) ∧ Quiet w w' ∧ Holds w' (kst b bg (told ++ (logTxt (evs Tbl.zero (allB d.b)) ++ line tEnd)) * (gblk bg bd vs now * (dsk bd d * (RN * (inum v [] * (lay w0 * R)))))) := by
  obtain ⟨va, vc, rfl, d1⟩ := inum_nil (h.eq (by ac_rfl : _ = inum v [] * (kst b bg told * (gblk bg bd vs now * (dsk bd d * (RN * (lay w0 * R)))))))
  have hE := disk_evs d.b
  have hEL := disk_evs_len hd.b
  obtain ⟨E, hEe⟩ : ∃ E, evs Tbl.zero (allB d.b) = E := ⟨_, rfl⟩
  rw [hEe] at hE hEL ⊢
  have HES := Lib.hid hE; have HD := Lib.hid hd; have HE := Lib.hid hEe
  have hbJ := bytes_no (show tLog ≠ tJob by decide); have hbD := bytes_no (show tLog ≠ tDisk by decide); have hbL := bytes_yes tLog
  obtain ⟨T, hT⟩ : ∃ T, strOf tLog = T := ⟨_, rfl⟩
  rw [hT] at hbJ hbD hbL ⊢
  simp only [tJob, tDisk, tLog] at hbJ hbD hbL
  have c2 : w.cell? ⟨b, 2, none⟩ = some (.pointer (some ⟨bg, 0, none⟩)) := kst_bg h
  have c3 : w.cell? ⟨bg, 0, none⟩ = some (.pointer (some ⟨bd, 0, none⟩)) := (show Holds w (bl bg 65 (gcells bd vs now) * _) from h.two).bl.cell 0 _ rfl
  have H0 := Lib.hid h; have HT := Lib.hid hT
  clear h hd hT hE hEe
  go_enter Tryz.func27, Tryz.ntmps27
  go_wp2_with fail
  refine (bytes_sl bd d _ H0.out.three HD.out).mono ?_
  rintro e w2 ⟨vb, rfl, q2, h2⟩
  replace h2 : Holds w2 (ownb vb d.b * (dsk bd d * (kst b bg told * (gblk bg bd vs now * (RN * (inum (.slice va 0 vc) [] * (lay w0 * R))))))) := h2
  have H2 := Lib.hid h2; have Q2 := Lib.hid q2
  clear h2 q2 c2 c3
  go_wp2_with fail
  refine (of_sl vb d.b w2 H2.out.ownb.bytes (by have := HD.out.b; omega) H2.out.right).mono ?_
  rw [HE.out]
  rintro e w3 ⟨ve, rfl, q3, h3⟩
  replace h3 : Holds w3 (sevs ve E * (dsk bd d * (kst b bg told * (gblk bg bd vs now * (RN * (inum (.slice va 0 vc) [] * (lay w0 * R))))))) := h3
  obtain ⟨ea, ec, rfl, -, -⟩ := h3.row.shape
  have H3 := Lib.hid (h3.eq (by ac_rfl : _ = kst b bg told * (sevs (.slice ea E.length ec) E * (dsk bd d * (gblk bg bd vs now * (RN * (inum (.slice va 0 vc) [] * (lay w0 * R)))))))); have Q3 := Lib.hid (Q2.out.trans q3)
  clear h3 q3
  go_wp2_with fail
  go_loopw [103] (fun i wr => ∃ k : Nat, k ≤ E.length ∧ i = .int .i64 k ∧ Holds wr (kst b bg (told ++ logTxt (E.take k)) * (sevs (.slice ea E.length ec) E * (dsk bd d * (gblk bg bd vs now * (RN * (inum (.slice va 0 vc) [] * (lay w0 * R))))))) ∧ Quiet w wr) (fun i _ => E.length - (intOf i).toNat)
  case atStart => exact ⟨0, by omega, rfl, by simpa [logTxt] using H3.out, Q3.out⟩
  case round =>
    obtain ⟨k, hk, rfl, hh, hq⟩ := hrel
    have hle : (logTxt (E.take k)).length ≤ 261 * k := by
      have := logTxt_len (l := E.take k) fun e he => HES.out e (List.mem_of_mem_take he)
      rw [List.length_take] at this; omega
    obtain ⟨wo, rfl⟩ : ∃ wo : World, wo = wr := ⟨_, rfl⟩
    by_cases hlt : k < E.length
    · obtain ⟨e0, he⟩ : ∃ e, E[k]? = some e := ⟨_, List.getElem?_eq_getElem hlt⟩
      have hsm := HES.out e0 (List.mem_of_getElem? he)
      have hst := logTxt_take E k e0 he
      obtain ⟨S0, hS0⟩ : ∃ S, told ++ logTxt (E.take k) = S := ⟨_, rfl⟩
      have hSl : S0.length ≤ 300000000 + 261 * 166 := by rw [← hS0, List.length_append]; omega
      have hst2 : told ++ logTxt (E.take (k + 1)) = S0 ++ line (evTxt e0) := by rw [hst, ← List.append_assoc, hS0]
      rw [hS0] at hh
      have HST := Lib.hid hst2; have HSM := Lib.hid hsm
      obtain ⟨ge, oe, ce, eh, -, -, hce⟩ := hh.two.row.get (by omega)
      simp only [Value.slice.injEq] at eh
      obtain ⟨rfl, _, rfl⟩ := eh
      obtain ⟨⟨ep2, ⟨kd, nw, jb, tr, wk, tm⟩⟩, ⟨a0, a1, a2⟩, ⟨s1, s2, s3, s4⟩⟩ := e0
      have y0 : wo.cell? ⟨ge, oe + k * 14, none⟩ = some (.int .i64 ep2) := evvs_cell hce he 0 (.int .i64 ep2) (by omega) rfl
      have y1 := evvs_cell hce he 1 (.int .i64 kd) (by omega) rfl
      have y2 := evvs_cell hce he 2 (.int .i64 nw) (by omega) rfl
      have y3 := evvs_cell hce he 3 (.int .i64 jb) (by omega) rfl
      have y4 := evvs_cell hce he 4 (.int .i64 tr) (by omega) rfl
      have y5 := evvs_cell hce he 5 (.int .i64 wk) (by omega) rfl
      have y6 := evvs_cell hce he 6 (.int .i64 tm) (by omega) rfl
      have y7 := evvs_cell hce he 7 (.int .i64 a0) (by omega) rfl
      have y8 := evvs_cell hce he 8 (.int .i64 a1) (by omega) rfl
      have y9 := evvs_cell hce he 9 (.int .i64 a2) (by omega) rfl
      have y10 := evvs_cell hce he 10 (.int .i64 s1) (by omega) rfl
      have y11 := evvs_cell hce he 11 (.int .i64 s2) (by omega) rfl
      have y12 := evvs_cell hce he 12 (.int .i64 s3) (by omega) rfl
      have y13 := evvs_cell hce he 13 (.int .i64 s4) (by omega) rfl
      have HH := Lib.hid hh; have HQ := Lib.hid hq
      clear hh hq he hst hS0 hst2 hsm hce hle
      go_wp2_with fail
      clear y0 y1 y2 y3 y4 y5 y6 y7 y8 y9 y10 y11 y12 y13
      obtain ⟨gx, hgx⟩ : ∃ gx, wo.heap.size = gx := ⟨_, rfl⟩
      have hx0 := ((HH.out.boxB (ty := 125) (cs := [.int .i64 ep2, .int .i64 kd, .int .i64 nw, .int .i64 jb, .int .i64 tr, .int .i64 wk, .int .i64 tm, .int .i64 a0, .int .i64 a1, .int .i64 a2, .int .i64 s1, .int .i64 s2, .int .i64 s3, .int .i64 s4]) hgx).boxB (ty := 84) (cs := [.int .i64 kd, .int .i64 nw, .int .i64 jb, .int .i64 tr, .int .i64 wk, .int .i64 tm]) (g := gx + 1) (by simp [hgx]))
      have qx0 := ((HQ.out.alloc (.cells (List.toArray [.int .i64 ep2, .int .i64 kd, .int .i64 nw, .int .i64 jb, .int .i64 tr, .int .i64 wk, .int .i64 tm, .int .i64 a0, .int .i64 a1, .int .i64 a2, .int .i64 s1, .int .i64 s2, .int .i64 s3, .int .i64 s4]) 125)).alloc (.cells (List.toArray [.int .i64 kd, .int .i64 nw, .int .i64 jb, .int .i64 tr, .int .i64 wk, .int .i64 tm]) 84))
      obtain ⟨wx, hwx⟩ : ∃ wx, (wo.alloc (.cells (List.toArray [.int .i64 ep2, .int .i64 kd, .int .i64 nw, .int .i64 jb, .int .i64 tr, .int .i64 wk, .int .i64 tm, .int .i64 a0, .int .i64 a1, .int .i64 a2, .int .i64 s1, .int .i64 s2, .int .i64 s3, .int .i64 s4]) 125)).alloc (.cells (List.toArray [.int .i64 kd, .int .i64 nw, .int .i64 jb, .int .i64 tr, .int .i64 wk, .int .i64 tm]) 84) = wx := ⟨_, rfl⟩
      rw [hwx] at hx0 qx0
      have hwx' : (wo.alloc (.cells #[.int .i64 ep2, .int .i64 kd, .int .i64 nw, .int .i64 jb, .int .i64 tr, .int .i64 wk, .int .i64 tm, .int .i64 a0, .int .i64 a1, .int .i64 a2, .int .i64 s1, .int .i64 s2, .int .i64 s3, .int .i64 s4] 125)).alloc (.cells #[.int .i64 kd, .int .i64 nw, .int .i64 jb, .int .i64 tr, .int .i64 wk, .int .i64 tm] 84) = wx := hwx
      rw [hwx', hgx]
      have HX := Lib.hid (hx0.drew.eq (by ac_rfl : _ = (bl (gx + 1) 84 [.int .i64 kd, .int .i64 nw, .int .i64 jb, .int .i64 tr, .int .i64 wk, .int .i64 tm] * bl gx 125 [.int .i64 ep2, .int .i64 kd, .int .i64 nw, .int .i64 jb, .int .i64 tr, .int .i64 wk, .int .i64 tm, .int .i64 a0, .int .i64 a1, .int .i64 a2, .int .i64 s1, .int .i64 s2, .int .i64 s3, .int .i64 s4]) * (kst b bg S0 * (sevs (.slice (some ⟨ge, oe, none⟩) E.length ec) E * (dsk bd d * (gblk bg bd vs now * (RN * (inum (.slice va 0 vc) [] * (lay w0 * R))))))))); have QX := Lib.hid qx0.drew
      clear hx0 qx0 hwx hwx' hgx
      have mkS : ∀ (W : World) (B : HP), Holds W ((bl (gx + 1) 84 [.int .i64 kd, .int .i64 nw, .int .i64 jb, .int .i64 tr, .int .i64 wk, .int .i64 tm] * bl gx 125 [.int .i64 ep2, .int .i64 kd, .int .i64 nw, .int .i64 jb, .int .i64 tr, .int .i64 wk, .int .i64 tm, .int .i64 a0, .int .i64 a1, .int .i64 a2, .int .i64 s1, .int .i64 s2, .int .i64 s3, .int .i64 s4]) * B) → (∀ o, W.cell? ⟨gx + 1, o, none⟩ = ([.int .i64 kd, .int .i64 nw, .int .i64 jb, .int .i64 tr, .int .i64 wk, .int .i64 tm] : List Value)[o]?) ∧ W.cell? ⟨gx, 0, none⟩ = some (.int .i64 ep2) ∧ BlockAt W gx 125 [.int .i64 ep2, .int .i64 kd, .int .i64 nw, .int .i64 jb, .int .i64 tr, .int .i64 wk, .int .i64 tm, .int .i64 a0, .int .i64 a1, .int .i64 a2, .int .i64 s1, .int .i64 s2, .int .i64 s3, .int .i64 s4] := fun W B h => ⟨h.left.bl.cells, h.left.swap.bl.cell 0 _ rfl, h.left.swap.bl⟩
      have MKS := Lib.hid mkS; clear mkS
      have hr7 : ∀ n ∈ [ep2, kd, nw, jb, tr, wk, tm], I64' n := sms_i64 HSM.out.r
      have hr4 : ∀ n ∈ [s1, s2, s3, s4], I64' n := sms_i64 HSM.out.j
      have HR7 := Lib.hid hr7; have HR4 := Lib.hid hr4; have hl7 := nums_le hr7; have hl4 := nums_le hr4
      simp only [List.length_cons, List.length_nil] at hl7 hl4
      clear hr7 hr4
      refine wp_region_lex (fun W => (∀ o, W.cell? ⟨gx + 1, o, none⟩ = ([.int .i64 kd, .int .i64 nw, .int .i64 jb, .int .i64 tr, .int .i64 wk, .int .i64 tm] : List Value)[o]?) ∧ W.cell? ⟨gx, 0, none⟩ = some (.int .i64 ep2) ∧ BlockAt W gx 125 [.int .i64 ep2, .int .i64 kd, .int .i64 nw, .int .i64 jb, .int .i64 tr, .int .i64 wk, .int .i64 tm, .int .i64 a0, .int .i64 a1, .int .i64 a2, .int .i64 s1, .int .i64 s2, .int .i64 s3, .int .i64 s4]) [16, 17, 22, 23, 24, 25] (by kernel_rfl) (by kernel_rfl) (MKS.out _ _ HX.out) ?_
      repeat (first | (refine LexL.none (by rfl) ?_; (try simp only [Act.put, List.setIfInBounds_toArray, List.set_cons_zero, List.set_cons_succ])) | (refine LexL.still (v := ?_) (by rfl) ?_ ?_; rotate_left; (focus (intro W hW; (try dsimp only at hW); go_simp; (try (with_reducible rfl)); done)); (try simp only [Act.put, List.setIfInBounds_toArray, List.set_cons_zero, List.set_cons_succ])))
      refine LexL.value (w1 := wx.drew.alloc (.cells (ivs [ep2, kd, nw, jb, tr, wk, tm]).toArray 3)) (v := .slice (some ⟨wx.drew.heap.size, 0, none⟩) 7 7) (by rfl) (by decide) (by go_simp; rfl) (MKS.out _ _ (HX.out.alloc _)) ?_
      try simp only [Act.put, List.setIfInBounds_toArray, List.set_cons_zero, List.set_cons_succ]
      refine LexL.call (f := 50) (args := #[.slice (some ⟨wx.drew.heap.size, 0, none⟩) 7 7]) (w1 := wx.drew.alloc (.cells (ivs [ep2, kd, nw, jb, tr, wk, tm]).toArray 3)) (by rfl) (by decide) (by go_simp) ?_
      refine (nums_sl _ [ep2, kd, nw, jb, tr, wk, tm] _ (lay_laid ((HX.out.alloc (.cells (ivs [ep2, kd, nw, jb, tr, wk, tm]).toArray 3)).eq (by ac_rfl : _ = lay w0 * ((bl (gx + 1) 84 [.int .i64 kd, .int .i64 nw, .int .i64 jb, .int .i64 tr, .int .i64 wk, .int .i64 tm] * bl gx 125 [.int .i64 ep2, .int .i64 kd, .int .i64 nw, .int .i64 jb, .int .i64 tr, .int .i64 wk, .int .i64 tm, .int .i64 a0, .int .i64 a1, .int .i64 a2, .int .i64 s1, .int .i64 s2, .int .i64 s3, .int .i64 s4]) * (kst b bg S0 * (sevs (.slice (some ⟨ge, oe, none⟩) E.length ec) E * (dsk bd d * (gblk bg bd vs now * (RN * (inum (.slice va 0 vc) [] * R)))))))))) (ivs_row rfl (by simp) _ rfl _) (by simp) HR7.out).mono ?_
      rintro e w6 ⟨rfl, hb6⟩
      have H6 := Lib.hid ((HX.out.alloc (.cells (ivs [ep2, kd, nw, jb, tr, wk, tm]).toArray 3)).below hb6); have Q6 := Lib.hid ((QX.out.alloc (.cells (ivs [ep2, kd, nw, jb, tr, wk, tm]).toArray 3)).trans (Quiet.below hb6)); clear hb6
      refine ⟨_, rfl, MKS.out _ _ H6.out, ?_⟩
      try simp only [Act.put, List.setIfInBounds_toArray, List.set_cons_zero, List.set_cons_succ]
      obtain ⟨N, hN⟩ : ∃ N, nums [ep2, kd, nw, jb, tr, wk, tm] = N := ⟨_, rfl⟩
      obtain ⟨J, hJ⟩ : ∃ J, nums [s1, s2, s3, s4] = J := ⟨_, rfl⟩
      rw [hN] at hl7 ⊢
      rw [hJ] at hl4
      refine LexL.still (v := .string (strOf (tRecord ++ N))) (by rfl) (fun W _ => exec_add_str (l := tRecord) (m := N) (.const (.string ⟨#[114, 101, 99, 111, 114, 100]⟩)) (.tmp 127) rfl rfl rfl (by simp [tRecord]; omega)) ?_
      try simp only [Act.put, List.setIfInBounds_toArray, List.set_cons_zero, List.set_cons_succ]
      refine LexL.still (v := .string (strOf (tRecord ++ N ++ (32 :: tJob)))) (by rfl) (fun W _ => exec_add_str (l := tRecord ++ N) (m := 32 :: tJob) (.tmp 128) (.const (.string ⟨#[32, 106, 111, 98]⟩)) rfl rfl rfl (by simp [tRecord, tJob]; omega)) ?_
      try simp only [Act.put, List.setIfInBounds_toArray, List.set_cons_zero, List.set_cons_succ]
      repeat (first | (refine LexL.none (by rfl) ?_; (try simp only [Act.put, List.setIfInBounds_toArray, List.set_cons_zero, List.set_cons_succ])) | (refine LexL.still (v := ?_) (by rfl) ?_ ?_; rotate_left; (focus (intro W hW; (try dsimp only at hW); go_simp; (try (with_reducible rfl)); done)); (try simp only [Act.put, List.setIfInBounds_toArray, List.set_cons_zero, List.set_cons_succ])))
      refine LexL.still (v := .agg #[.int .i64 s1, .int .i64 s2, .int .i64 s3, .int .i64 s4]) (by rfl) (fun W hW => exec_load_part 92 _ rfl gx 10 rfl [.int .i64 s1, .int .i64 s2, .int .i64 s3, .int .i64 s4] hW.2.2 rfl Tryz.underlying92 rfl (by kernel_rfl)) ?_
      try simp only [Act.put, List.setIfInBounds_toArray, List.set_cons_zero, List.set_cons_succ]
      refine LexL.call (f := 48) (args := #[(⟨s1, s2, s3, s4⟩ : Job).val]) (w1 := w6) (by rfl) (by decide) (by go_simp; rfl) ?_
      refine (kjob_sl ⟨s1, s2, s3, s4⟩ _ (lay_laid (H6.out.eq (by ac_rfl : _ = lay w0 * ((bl (gx + 1) 84 [.int .i64 kd, .int .i64 nw, .int .i64 jb, .int .i64 tr, .int .i64 wk, .int .i64 tm] * bl gx 125 [.int .i64 ep2, .int .i64 kd, .int .i64 nw, .int .i64 jb, .int .i64 tr, .int .i64 wk, .int .i64 tm, .int .i64 a0, .int .i64 a1, .int .i64 a2, .int .i64 s1, .int .i64 s2, .int .i64 s3, .int .i64 s4]) * (kst b bg S0 * (sevs (.slice (some ⟨ge, oe, none⟩) E.length ec) E * (dsk bd d * (gblk bg bd vs now * (RN * (inum (.slice va 0 vc) [] * R)))))))))) HR4.out).mono ?_
      rw [show jobTxt ⟨s1, s2, s3, s4⟩ = J from hJ]
      rintro e w7 ⟨rfl, hb7⟩
      have H7 := Lib.hid (H6.out.below hb7); have Q7 := Lib.hid (Q6.out.trans (Quiet.below hb7)); clear hb7
      refine ⟨_, rfl, MKS.out _ _ H7.out, ?_⟩
      try simp only [Act.put, List.setIfInBounds_toArray, List.set_cons_zero, List.set_cons_succ]
      have hev : evTxt ⟨⟨ep2, ⟨kd, nw, jb, tr, wk, tm⟩⟩, ⟨a0, a1, a2⟩, ⟨s1, s2, s3, s4⟩⟩ = tRecord ++ N ++ (32 :: tJob) ++ J := by rw [← hN, ← hJ]; rfl
      rw [hev] at HST
      obtain ⟨X, hX⟩ : ∃ X, tRecord ++ N ++ (32 :: tJob) ++ J = X := ⟨_, rfl⟩
      have hXl : X.length ≤ 300 := by rw [← hX]; simp [tRecord, tJob]; omega
      refine LexL.still (v := .string (strOf X)) (by rfl) (fun W _ => hX ▸ exec_add_str (l := tRecord ++ N ++ (32 :: tJob)) (m := J) (.tmp 129) (.tmp 132) rfl rfl rfl (by simp [tRecord, tJob]; omega)) ?_
      try simp only [Act.put, List.setIfInBounds_toArray, List.set_cons_zero, List.set_cons_succ]
      rw [hX] at HST
      refine LexL.value (w1 := w7.alloc (.cells (svls [X]).toArray 9)) (v := .slice (some ⟨w7.heap.size, 0, none⟩) 1 1) (by rfl) (by decide) (by go_simp; rfl) (MKS.out _ _ (H7.out.alloc _)) ?_
      try simp only [Act.put, List.setIfInBounds_toArray, List.set_cons_zero, List.set_cons_succ]
      refine LexL.call (f := 28) (args := #[.pointer (some ⟨b, 0, none⟩), .slice (some ⟨w7.heap.size, 0, none⟩) 1 1]) (w1 := w7.alloc (.cells (svls [X]).toArray 9)) (by rfl) (by decide) (by go_simp) ?_
      refine (say_sl b bg S0 _ [X] _ (H7.out.alloc (.cells (svls [X]).toArray 9)).two (svls_row rfl (by simp) _ rfl _) (by simp) (by simp) (by omega) (by rw [join_one']; omega)).mono ?_
      rintro e w8 ⟨rfl, q8, h8⟩
      rw [join_one', ← HST.out] at h8
      have H8 := Lib.hid h8
      have Q8 := Lib.hid ((Q7.out.alloc (.cells (svls [X]).toArray 9)).trans q8)
      clear h8 q8
      refine ⟨_, rfl, MKS.out _ _ H8.out.two, ?_⟩
      try simp only [Act.put, List.setIfInBounds_toArray, List.set_cons_zero, List.set_cons_succ]
      refine LexL.done ?_
      go_wp2_with fail
      go_roundw
      case rel => exact ⟨k + 1, by omega, by go_num, H8.out.two.right, Q8.out⟩
      case measure => simp [intOf]; omega
    · obtain rfl : k = E.length := by omega
      rw [List.take_length] at hh hle
      have HH := Lib.hid hh; have HQ := Lib.hid hq
      clear hh hq
      go_wp2_with (go_at_call 28; refine (say_sl b bg (told ++ logTxt E) _ [tEnd] _ (HH.out.alloc (.cells (svls [tEnd]).toArray 9)) (svls_row (by simp) (by simp) _ rfl _) (by simp) (by simp) (by rw [List.length_append]; omega) (by rw [join_one']; simp [tEnd])).mono ?_; rintro e w6 ⟨rfl, q6, h6⟩)
      rw [join_one', List.append_assoc] at h6
      go_ret
      exact ⟨rfl, (HQ.out.alloc _).trans q6, (h6.eq (by ac_rfl : _ = sevs (.slice ea E.length ec) E * (kst b bg (told ++ (logTxt E ++ line tEnd)) * (gblk bg bd vs now * (dsk bd d * (RN * (inum (.slice va 0 vc) [] * (lay w0 * R)))))))).right⟩
end Go.Proofs.YtfihmpkkpgmdhaaGreatDoor

/-
  desk.ask: whatever is asked.
-/
namespace Go.Proofs.YtfihmpkkpgmdhaaGreatDoor
set_option maxRecDepth 100000
set_option linter.unusedSimpArgs false
set_option linter.unusedVariables false
set_option linter.unnecessarySimpa false
open Go.RowKit
theorem ask_sl (b bg : Nat) (told : List UInt8) (g : Gld) (v : Value) (x : List UInt8) (l : List Int) (w : World) {w0 : World} {R : HP}
    (h : Holds w (kst b bg told * (gld bg g * (inum v l * (lay w0 * R))))) (hg : g.Good) (ht : told.length ≤ 300000000) (hq : askReq x l ≠ .what) :
    Calls Tryz.prog 27 #[.pointer (some ⟨b, 0, none⟩), .string (strOf x), v] w fun e w' => e = .returned (.bool true) ∧ Quiet w w' ∧ Holds w' (kst b bg (told ++ (tell g (askReq x l)).2) * (gld bg (tell g (askReq x l)).1 * (inum v l * (lay w0 * R)))) := by
  obtain ⟨bd, vs, h'⟩ := gld_open h.two
  have h2 : Holds w (kst b bg told * (gblk bg bd vs g.now * (dsk bd g.d * (nodes3 bd vs g.f * (inum v l * (lay w0 * R)))))) := h'.eq (by ac_rfl)
  have back : ∀ (W : World) (td : List UInt8), Holds W (kst b bg td * (gblk bg bd vs g.now * (dsk bd g.d * (nodes3 bd vs g.f * (inum v l * (lay w0 * R)))))) → Holds W (kst b bg td * (gld bg g * (inum v l * (lay w0 * R)))) := fun W td h => (gld_close (h.eq (by ac_rfl : _ = gblk bg bd vs g.now * (dsk bd g.d * (nodes3 bd vs g.f * (kst b bg td * (inum v l * (lay w0 * R)))))))).two
  obtain ⟨lg, hl⟩ := hg
  have hd := hl.fam.ok
  match l, hq, h2, back with
  | [], hq, h2, back =>
    by_cases e1 : x = tDisk
    · subst e1
      rw [show askReq tDisk [] = .disk from by simp [askReq]]
      refine (ask_disk b bg bd vs told g.d g.now v w h2 hd ⟨hl.now.1, by have := hl.now.2; omega⟩ ht).mono ?_
      rintro e w' ⟨he, q, k⟩
      exact ⟨he, q, back _ _ k⟩
    by_cases e2 : x = tLog
    · subst e2
      rw [show askReq tLog [] = .log from by simp [askReq, e1]]
      refine (ask_log b bg bd vs told g.d g.now v w h2 hd ht).mono ?_
      rintro e w' ⟨he, q, k⟩
      exact ⟨he, q, back _ _ k⟩
    exact absurd (by simp [askReq, e1, e2]) hq
  | [a], hq, h2, back =>
    by_cases e1 : x = tHolders
    · subst e1
      rw [show askReq tHolders [a] = .holders a from by simp [askReq]]
      refine (ask_holders b bg bd vs told g.d g.now a v w h2 hd ht).mono ?_
      rintro e w' ⟨he, q, k⟩
      exact ⟨he, q, back _ _ k⟩
    exact absurd (by simp [askReq, e1]) hq
  | [n, j], hq, h2, back =>
    by_cases e1 : x = tJob
    · subst e1
      rw [show askReq tJob [n, j] = .job n j from by simp [askReq]]
      cases hn : g.nod n with
      | none =>
        refine (ask_job_none b bg bd vs told g.d g.f g.now v n j w h2 hn ht).mono ?_
        rintro e w' ⟨he, q, k⟩
        refine ⟨he, q, ?_⟩
        have : tell g (.job n j) = (g, line (tNo ++ nums [5])) := by unfold tell; simp only [hn]
        rw [this]
        exact back _ _ k
      | some nd =>
        refine (ask_job_some b bg bd vs told g.d g.f g.now v n j nd w h2 hn (hl.nodOk hn) ht).mono ?_
        rintro e w' ⟨he, q, k⟩
        refine ⟨he, q, ?_⟩
        have : tell g (.job n j) = (g, line (tJob ++ jobTxt (nd.t.job j))) := by unfold tell; simp only [hn]
        rw [this]
        exact back _ _ k
    exact absurd (by simp [askReq, e1]) hq
  | _ :: _ :: _ :: _, hq, _, _ => exact absurd rfl hq
end Go.Proofs.YtfihmpkkpgmdhaaGreatDoor

/-
  A line's words, in memory.
-/
namespace Go.Proofs.YtfihmpkkpgmdhaaGreatDoor
set_option maxRecDepth 100000
set_option linter.unusedSimpArgs false
set_option linter.unusedVariables false
set_option linter.unnecessarySimpa false
open Go.RowKit
def sve (x : List UInt8) : Value := .string (strOf x)
theorem svls_sve (l : List (List UInt8)) : svls l = l.map sve := rfl
theorem split_sl (s : List UInt8) (w : World) (hl : Laid w) (hs : s.length ≤ 1000000) :
    Calls Tryz.prog 22 #[.string (strOf s), .string ⟨#[32]⟩] w fun e w' => e = .returned (.slice (some ⟨w.heap.size, 0, none⟩) (pieces 32 s).length (pieces 32 s).length) ∧ w' = w.alloc (.cells (svls (pieces 32 s)).toArray 9) := by
  obtain ⟨m, hm⟩ := hl.max
  have hd : (strOf s).data.toList = s := strOf_data s
  have hc : Lib.countB (strOf s) ⟨#[32]⟩ = Lib.count s [32] := by show Lib.count (strOf s).data.toList [32] = _; rw [hd]
  have h1 := Lib.splitB_all ⟨#[32]⟩ (show 1 ≤ 1 by decide) 0 _ (strOf s) rfl
  have h2 := Lib.splitB_data ⟨#[32]⟩ 0 (Lib.countB (strOf s) ⟨#[32]⟩) (strOf s)
  rw [hd, show (⟨#[32]⟩ : ByteArray).data.toList = [32] from rfl, hc, splitK_pieces] at h2
  rw [hc] at h1
  have h3 : (pieces 32 s).length = Lib.count s [32] + 1 := by rw [← h2, List.length_map, h1]
  have h4 : (Lib.splitB ⟨#[32]⟩ 0 (Lib.count s [32]) (strOf s)).map Value.string = svls (pieces 32 s) := by
    rw [← h2]
    simp only [svls, List.map_map]
    exact List.map_congr_left fun x _ => by simp [strOf_list]
  have := Tryz.strings_Split (strOf s) ⟨#[32]⟩ m w (by rw [strOf_size]; omega) hm (show 1 ≤ 1 by decide)
  rw [hc, h4] at this
  rw [h3]
  exact this
theorem empty_gives (x : List UInt8) (W : World) : FnGives Tryz.prog 23 #[] #[sve x] (.bool (decide (x = []))) W := by
  show Calls Tryz.prog 23 #[.string (strOf x)] W _
  have hx : ((strOf x).toList == []) = decide (x = []) := by
    by_cases e : x = []
    · subst e; exact (bytes_yes []).trans (by simp)
    · rw [show decide (x = []) = false by simpa using e]
      exact bytes_no e
  go_enter Tryz.func23, Tryz.ntmps23
  go_wp2
  all_goals (go_ret; exact ⟨by simp_all, 0, rfl⟩)
theorem putRow_at {w : World} {g : Nat} {ty : TypeId} {cs : List Value} (h : BlockAt w g ty cs) (d : List (List UInt8)) (hd : d.length = cs.length) (q : Nat) :
    BlockAt (Sort.putRow sve (Sort.ahead w q) g 0 d.toArray) g ty (svls d) := by
  unfold BlockAt at *
  unfold Sort.putRow Sort.mapBlock
  have h' : (Sort.ahead w q).heap[g]? = some (.cells cs.toArray ty (0, 0)) := h
  simp only [Array.getElem?_modify, if_true, h', Option.map_some, Sort.onCells]
  congr 2
  apply Array.ext_getElem?
  intro k
  simp only [Sort.putCells, Array.getElem?_mapIdx, Nat.zero_le, true_and, Nat.zero_add, List.getElem?_toArray, Nat.sub_zero, List.size_toArray]
  by_cases hk : k < d.length
  · rw [List.getElem?_eq_getElem (by omega : k < cs.length), Option.map_some, if_pos hk]
    simp [svls, sve, hk]
  · have h1 : cs[k]? = none := List.getElem?_eq_none (by omega)
    have h2 : (svls d)[k]? = none := List.getElem?_eq_none (by simp only [svls, List.length_map]; omega)
    rw [h1, h2]
    rfl
theorem putRow_other {w : World} {g k : Nat} (hk : k ≠ g) (d : List (List UInt8)) (q : Nat) : (Sort.putRow sve (Sort.ahead w q) g 0 d.toArray).heap[k]? = w.heap[k]? := by
  unfold Sort.putRow Sort.mapBlock
  simp only [Array.getElem?_modify, Sort.heap_ahead]
  rw [if_neg (Ne.symm hk)]
theorem delete_sl (L : List (List UInt8)) (g : Nat) (w : World) (hn : L.length ≤ 1000000) {R : HP} (h : Holds w (bl g 9 (svls L) * R)) :
    Calls Tryz.prog 21 #[.slice (some ⟨g, 0, none⟩) L.length L.length, .func (.func 23) #[] #[]] w fun e w' => e = .returned (.slice (some ⟨g, 0, none⟩) (L.filter fun x => !decide (x = [])).length L.length) ∧ Quiet w w' ∧ Holds w' (wds (.slice (some ⟨g, 0, none⟩) (L.filter fun x => !decide (x = [])).length L.length) (L.filter fun x => !decide (x = [])) * R) := by
  have eg : ∀ args w, (callFunc 23 args).run Tryz.prog w = .ok (.enter 23 args) w := enters_of Tryz.func23 (by kernel_rfl) rfl
  have hH : Sort.Holds sve w g 0 L.toArray := fun j hj => ⟨by
    rw [Nat.zero_add]
    refine h.bl.cell j _ ?_
    have hj' : j < L.length := by simpa using hj
    simp [svls, sve, hj'], h.bl.free _⟩
  have hc := Tryz.slices_DeleteFunc sve (fun _ => rfl) (fun x => decide (x = [])) 23 #[] eg [] Tryz.zeroValue9 g 0 L.length L.toArray w (fun W x _ => empty_gives x W) (fun n os dk x _ => empty_gives x _) hH (by simp; omega) (by simp)
  simp only [List.toList_toArray, List.size_toArray] at hc
  refine hc.mono ?_
  obtain ⟨F, hF⟩ : ∃ F, (L.filter fun x => !decide (x = [])) = F := ⟨_, rfl⟩
  have hle : F.length ≤ L.length := hF ▸ List.length_filter_le _ _
  rw [hF]
  rintro e w' ⟨rfl, q, rfl⟩
  have hb := putRow_at h.bl (F ++ List.replicate (L.length - F.length) []) (by simp [svls]; omega) q
  refine ⟨rfl, ⟨rfl, rfl, rfl, by simp⟩, ?_⟩
  obtain ⟨G, ⟨h1, rfl⟩, k⟩ := h.open
  refine k _ (fun k => (Value.slice (some ⟨g, 0, none⟩) F.length L.length).ownBlock = some k) _ ⟨⟨by simp [svls], ?_, .inr ⟨g, _, _, rfl, hb, hle, ?_, ?_, ?_⟩⟩, rfl⟩ ⟨rfl, rfl, rfl, by simp, fun k _ hk => putRow_other hk _ q⟩ ?_
  · intro v hv
    obtain ⟨x, _, rfl⟩ := List.mem_map.1 hv
    rfl
  · simp [svls]; omega
  · unfold maxLen; omega
  · simp [svls]
  · intro k hk
    simp [Value.ownBlock] at hk
    exact .inl hk.symm
end Go.Proofs.YtfihmpkkpgmdhaaGreatDoor

/-
  desk.node, of an order that is torn.
-/
namespace Go.Proofs.YtfihmpkkpgmdhaaGreatDoor
set_option maxRecDepth 100000
set_option linter.unusedSimpArgs false
set_option linter.unusedVariables false
set_option linter.unnecessarySimpa false
open Go.RowKit
set_option maxHeartbeats 8000000 in
theorem node_tear (b bg : Nat) (told : List UInt8) (g : Gld) (v : Value) (a w1 : List UInt8) (r : List (List UInt8)) (k : Int) (n : Int) (m : List Int) (o : Ord) (w : World) {w0 : World} {R : HP}
    (h : Holds w (kst b bg told * (gld bg g * (wds v (tTear :: a :: w1 :: r) * (lay w0 * R))))) (hg : g.Good) (hl : r.length ≤ 10000) (hs : ∀ s ∈ tTear :: a :: w1 :: r, s.length ≤ 100000) (hk : numOf a = some k) (hr : numsOf r = some (n :: m)) (ho : orderOf w1 m = some o) (ht : told.length ≤ 300000000) :
    Calls Tryz.prog 24 #[.pointer (some ⟨b, 0, none⟩), v] w fun e w' => e = .returned (.bool true) ∧ Quiet w w' ∧ Holds w' (kst b bg (told ++ line (ansTxt (g.step ⟨3, n, k, o⟩).2 false)) * (gld bg (g.step ⟨3, n, k, o⟩).1 * (wds v (tTear :: a :: w1 :: r) * (lay w0 * R)))) := by
  have hrl := numsOf_len hr
  obtain ⟨gl, cl, rfl, c1, c2⟩ := wds_cons h.three
  simp only [List.length_cons] at c1 h ⊢
  obtain ⟨wa, hwa, H0, Q0⟩ : ∃ wa, w.alloc (.cells #[.int .i64 0, .int .i64 0, .int .i64 0, .int .i64 0, .int .i64 0, .int .i64 0, .int .i64 0, .int .i64 0, .int .i64 0] 86) = wa ∧ Hid (Holds wa (bl w.heap.size 86 (zstep 0) * (kst b bg told * (gld bg g * (wds (.slice (some ⟨gl, 0, none⟩) (r.length + 1 + 1 + 1) cl) (tTear :: a :: w1 :: r) * (lay w0 * R)))))) ∧ Hid (Quiet w wa) :=
    ⟨_, rfl, Lib.hid (h.boxB (ty := 86) (cs := zstep 0) rfl), Lib.hid ((Quiet.refl w).alloc _)⟩
  have HR := Lib.hid hr; have HO := Lib.hid ho; have HS := Lib.hid hs; have HG := Lib.hid hg
  have HK := Lib.hid (show numsOf [a] = some [k] by simp [numsOf, hk])
  clear h hr ho hs hg hk
  obtain ⟨qx, hqx⟩ : ∃ qx, w.heap.size = qx := ⟨_, rfl⟩
  rw [hqx] at H0
  have hr2 : r.length = m.length + 1 := by rw [← hrl]; rfl
  have hl2 : ¬ ((m.length : Int) + 1 + 1 + 1 + 1 < 2) := by omega
  have hl3 : ¬ ((m.length : Int) + 1 + 1 < 2) := by omega
  have hc1 : ¬ cl = 1 := by omega
  have hc2 : ¬ cl = 2 := by omega
  have hc3 : ¬ cl - 2 = 1 := by omega
  obtain ⟨T, hT⟩ : ∃ T, strOf tTear = T := ⟨_, rfl⟩
  have hb0 : (T.toList == [116, 101, 97, 114]) = true := by rw [← hT]; exact bytes_yes tTear
  have HT := Lib.hid hT; clear hT
  clear hrl
  go_enter Tryz.func24, Tryz.ntmps24
  go_wp2_with (first | (refine wpList_built rfl 86 _ rfl (zstep 2) (by kernel_rfl) ?_) | (refine wpList_store_whole rfl 86 _ _ rfl qx (zstep 2) rfl rfl H0.out.bl rfl (by kernel_rfl) (by simp [Ones, zstep, Value.oneCell']) ?_; intro wb h1' h2' h3'; have HB := Lib.hid (H0.out.grown h2' h1'); have QB := Lib.hid (Q0.out.trans (Quiet.grown h2')); have l0 := wds_cells HB.out.four 0 _ rfl; rw [HT.out] at l0; clear h1' h2' h3'))
  have hv1 : RowAt wb (.slice (some ⟨gl, 1, none⟩) 1 (cl - 1)) 1 (svls [a]) := wds_part HB.out.four rfl (q := 1) (m := 1) (d := cl - 1) (by omega) (by omega)
  refine (numbers_sl _ [a] [k] _ (HB.out.eq (by ac_rfl : _ = lay w0 * (bl qx 86 (zstep 2) * (kst b bg told * (gld bg g * (wds (.slice (some ⟨gl, 0, none⟩) (r.length + 1 + 1 + 1) cl) (tTear :: a :: w1 :: r) * R)))))) hv1 (by simp) (fun s hs => HS.out s (by simp at hs; simp [hs])) HK.out).mono ?_
  rintro e w3 ⟨v3, rfl, q3, h3⟩
  obtain ⟨gk, ck, rfl, e1, e2⟩ := inum_cons h3
  replace h3 : Holds w3 (inum (.slice (some ⟨gk, 0, none⟩) 1 ck) [k] * (lay w0 * (bl qx 86 (zstep 2) * (kst b bg told * (gld bg g * (wds (.slice (some ⟨gl, 0, none⟩) (r.length + 1 + 1 + 1) cl) (tTear :: a :: w1 :: r) * R)))))) := h3
  have HK3 := Lib.hid (h3.drew.eq (by ac_rfl : _ = bl qx 86 (zstep 2) * (inum (.slice (some ⟨gk, 0, none⟩) 1 ck) [k] * (kst b bg told * (gld bg g * (wds (.slice (some ⟨gl, 0, none⟩) (r.length + 1 + 1 + 1) cl) (tTear :: a :: w1 :: r) * (lay w0 * R)))))))
  have QK3 := Lib.hid ((QB.out.trans q3).drew)
  have y0 := HK3.out.bl.cell 0 _ rfl; have f0 := HK3.out.bl.free 0; have y2 := HK3.out.bl.cell 2 _ rfl; have f2 := HK3.out.bl.free 2
  have y2' : w3.cell? ⟨qx, 2, none⟩ = some (.int .i64 0) := y2
  have f2' : w3.frozen? ⟨qx, 2, none⟩ = false := f2
  clear h3 q3 hv1
  go_wp2_with fail
  have HK4 := Lib.hid (HK3.out.setB 0 (.int .i64 3))
  have HK5 := Lib.hid (HK4.out.setB 2 (.int .i64 k))
  refine wp_region_lex (fun W => W.cell? ⟨gk, 0, none⟩ = some (.int .i64 k)) [4, 6] (by kernel_rfl) (by kernel_rfl) (inum_cell HK3.out.two 0 _ rfl) ?_
  repeat (first | (refine LexL.none (by rfl) ?_; (try simp only [Act.put, List.setIfInBounds_toArray, List.set_cons_zero, List.set_cons_succ])) | (refine LexL.still (v := ?_) (by rfl) ?_ ?_; rotate_left; (focus (intro W hW; (try dsimp only at hW); go_simp; (try (with_reducible rfl)); done)); (try simp only [Act.put, List.setIfInBounds_toArray, List.set_cons_zero, List.set_cons_succ])))
  refine LexL.store (w1 := w3.drew.setCell ⟨qx, 0, none⟩ (.int .i64 3)) (by rfl) (by decide) (by go_simp) (inum_cell HK4.out.two 0 _ rfl) ?_
  try simp only [Act.put, List.setIfInBounds_toArray, List.set_cons_zero, List.set_cons_succ]
  repeat (first | (refine LexL.none (by rfl) ?_; (try simp only [Act.put, List.setIfInBounds_toArray, List.set_cons_zero, List.set_cons_succ])) | (refine LexL.still (v := ?_) (by rfl) ?_ ?_; rotate_left; (focus (intro W hW; (try dsimp only at hW); go_simp; (try (with_reducible rfl)); done)); (try simp only [Act.put, List.setIfInBounds_toArray, List.set_cons_zero, List.set_cons_succ])))
  refine LexL.store (w1 := (w3.drew.setCell ⟨qx, 0, none⟩ (.int .i64 3)).setCell ⟨qx, 2, none⟩ (.int .i64 k)) (by rfl) (by decide) (by go_simp) (inum_cell HK5.out.two 0 _ rfl) ?_
  try simp only [Act.put, List.setIfInBounds_toArray, List.set_cons_zero, List.set_cons_succ]
  refine LexL.done ?_
  obtain ⟨wb2, hwb2⟩ : ∃ W, (w3.drew.setCell ⟨qx, 0, none⟩ (.int .i64 3)).setCell ⟨qx, 2, none⟩ (.int .i64 k) = W := ⟨_, rfl⟩
  have hb2 := HK5.out
  have hq2 := ((QK3.out.setCell ⟨qx, 0, none⟩ (.int .i64 3)).setCell ⟨qx, 2, none⟩ (.int .i64 k))
  rw [hwb2] at hb2 hq2 ⊢
  have HB := Lib.hid (show Holds wb2 (bl qx 86 [.int .i64 3, .int .i64 0, .int .i64 k, .int .i64 0, .int .i64 0, .int .i64 0, .int .i64 0, .int .i64 0, .int .i64 0] * (kst b bg told * (gld bg g * (wds (.slice (some ⟨gl, 0, none⟩) (r.length + 1 + 1 + 1) cl) (tTear :: a :: w1 :: r) * (lay w0 * R))))) from hb2.two.right)
  have QB := Lib.hid hq2
  clear hb2 hq2 hwb2 HK3 HK4 HK5 QK3 y0 f0 y2 f2 y2' f2' l0
  go_wp2_with fail
  have hv2 : RowAt wb2 (.slice (some ⟨gl, 3, none⟩) (m.length + 1) (cl - 2 - 1)) r.length (svls r) := by rw [hr2]; exact wds_tail HB.out.four rfl (q := 3) (m := m.length + 1) (d := cl - 2 - 1) (by omega) (by omega)
  refine (numbers_sl _ r (n :: m) _ (HB.out.eq (by ac_rfl : _ = lay w0 * (bl qx 86 [.int .i64 3, .int .i64 0, .int .i64 k, .int .i64 0, .int .i64 0, .int .i64 0, .int .i64 0, .int .i64 0, .int .i64 0] * (kst b bg told * (gld bg g * (wds (.slice (some ⟨gl, 0, none⟩) (r.length + 1 + 1 + 1) cl) (tTear :: a :: w1 :: r) * R)))))) hv2 (by omega) (fun s hs => HS.out s (List.mem_cons_of_mem _ (List.mem_cons_of_mem _ (List.mem_cons_of_mem _ hs)))) HR.out).mono ?_
  rintro e w5 ⟨v5, rfl, q5, h5⟩
  obtain ⟨gn, cn, rfl, d1, d2⟩ := inum_cons h5
  have H5 := Lib.hid h5; have Q5 := Lib.hid (QB.out.trans q5)
  clear h5 q5 hv2
  go_wp2_with fail
  have l5 : w5.drew.cell? ⟨gl, 2, none⟩ = some (.string (strOf w1)) := wds_cells (H5.out.drew.eq (by ac_rfl : _ = wds (.slice (some ⟨gl, 0, none⟩) (r.length + 1 + 1 + 1) cl) (tTear :: a :: w1 :: r) * (inum (.slice (some ⟨gn, 0, none⟩) (m.length + 1) cn) (n :: m) * (lay w0 * (bl qx 86 [.int .i64 3, .int .i64 0, .int .i64 k, .int .i64 0, .int .i64 0, .int .i64 0, .int .i64 0, .int .i64 0, .int .i64 0] * (kst b bg told * (gld bg g * R))))))) 2 _ rfl
  refine wp_region_lexH (fun W => W.cell? ⟨gl, 2, none⟩ = some (.string (strOf w1))) [5, 10] [9] (fz1 9 84 zord) _ (by kernel_rfl) (by kernel_rfl) (by kernel_rfl) fz1_fl fz1_no (fz1_ok rfl ⟨rfl, fun a w => by kernel_rfl⟩) (fun W o h => cell_alloc_keep h o) l5 H5.out.drew ?_
  clear l5
  have hp1 : (0 : Int) < (m.length : Int) + 2 := by omega
  have hp2 : ¬ (m.length : Int) + 1 < 1 := by omega
  repeat (first | (refine LexHL.still (v := ?_) (by rfl) (by rfl) ?_ ?_; rotate_left; (focus (intro W hW; (try dsimp only at hW); go_simp; (try (with_reducible rfl)); done)); (try simp only [Act.put, List.setIfInBounds_toArray, List.set_cons_zero, List.set_cons_succ])))
  obtain ⟨vn, hvn⟩ : ∃ vn : Option Addr, (if cn = 1 then some ⟨gn, 0, none⟩ else some ⟨gn, 1, none⟩) = vn := ⟨_, rfl⟩
  have HVN := Lib.hid hvn; clear hvn
  refine LexHL.still (v := .slice vn m.length (cn - 1)) rfl rfl (fun W hW => by rw [← HVN.out]; go_simp) ?_
  try simp only [Act.put, List.setIfInBounds_toArray, List.set_cons_zero, List.set_cons_succ]
  refine LexHL.call (f := 42) (args := #[.string (strOf w1), .slice vn m.length (cn - 1)]) rfl rfl (by decide) (fun W hS => by go_simp) ?_
  intro W R1 hS hq hA
  have hrow : RowAt W (.slice vn m.length (cn - 1)) m.length (ivs m) := by
    rw [← HVN.out]
    have := inum_tail (show Holds W (rw_ 3 1 (.slice (some ⟨gn, 0, none⟩) (m.length + 1) cn) (m.length + 1) (ivs (n :: m)) * _) from hA.eq (HP.assoc _ _ _)) rfl (by omega)
    simpa using this
  refine (order_sl _ w1 m o W hrow HO.out hA).mono ?_
  rintro e w6 ⟨rfl, q6, h6⟩
  refine ⟨_, rfl, wds_cells (h6.eq (by ac_rfl : _ = wds (.slice (some ⟨gl, 0, none⟩) (r.length + 1 + 1 + 1) cl) (tTear :: a :: w1 :: r) * (inum (.slice (some ⟨gn, 0, none⟩) (m.length + 1) cn) (n :: m) * (lay w0 * (bl qx 86 [.int .i64 3, .int .i64 0, .int .i64 k, .int .i64 0, .int .i64 0, .int .i64 0, .int .i64 0, .int .i64 0, .int .i64 0] * (kst b bg told * (gld bg g * R)))) * R1))) 2 _ rfl, hq.trans q6, _, h6, ?_⟩
  clear hS hq hA hrow q6 h6
  dsimp only
  repeat (first | (refine LexHL.still (v := ?_) (by rfl) (by rfl) ?_ ?_; rotate_left; (focus (intro W hW; (try dsimp only at hW); go_simp; (try (with_reducible rfl)); done)); (try simp only [Act.put, List.setIfInBounds_toArray, List.set_cons_zero, List.set_cons_succ])))
  refine LexHL.made rfl ?_
  intro qo hlv
  clear hlv
  try simp only [Act.put, List.setIfInBounds_toArray, List.set_cons_zero, List.set_cons_succ]
  refine LexHL.storeB (q := qo) (t := 84) (cs := zord) (B := inum (.slice (some ⟨gn, 0, none⟩) (m.length + 1) cn) (n :: m) * (lay w0 * (bl qx 86 [.int .i64 3, .int .i64 0, .int .i64 k, .int .i64 0, .int .i64 0, .int .i64 0, .int .i64 0, .int .i64 0, .int .i64 0] * (kst b bg told * (gld bg g * (wds (.slice (some ⟨gl, 0, none⟩) (r.length + 1 + 1 + 1) cl) (tTear :: a :: w1 :: r) * R)))))) 84 _ _ rfl [.int .i64 o.kind, .int .i64 o.now, .int .i64 o.job, .int .i64 o.tr, .int .i64 o.wk, .int .i64 o.tm] rfl rfl rfl (by kernel_rfl) (by simp [Ones, Value.oneCell']) rfl rfl (by decide) rfl (fun W R2 h => wds_cells (h.eq (by ac_rfl : _ = wds (.slice (some ⟨gl, 0, none⟩) (r.length + 1 + 1 + 1) cl) (tTear :: a :: w1 :: r) * (bl qo 84 [.int .i64 o.kind, .int .i64 o.now, .int .i64 o.job, .int .i64 o.tr, .int .i64 o.wk, .int .i64 o.tm] * (inum (.slice (some ⟨gn, 0, none⟩) (m.length + 1) cn) (n :: m) * (lay w0 * (bl qx 86 [.int .i64 3, .int .i64 0, .int .i64 k, .int .i64 0, .int .i64 0, .int .i64 0, .int .i64 0, .int .i64 0, .int .i64 0] * (kst b bg told * (gld bg g * R))))) * R2))) 2 _ rfl) ?_
  try simp only [Act.put, List.setIfInBounds_toArray, List.set_cons_zero, List.set_cons_succ]
  repeat (first | (refine LexHL.still (v := ?_) (by rfl) (by rfl) ?_ ?_; rotate_left; (focus (intro W hW; (try dsimp only at hW); go_simp; (try (with_reducible rfl)); done)); (try simp only [Act.put, List.setIfInBounds_toArray, List.set_cons_zero, List.set_cons_succ])))
  refine LexHL.done ?_
  intro W hS hA hq
  have HA := Lib.hid hA; have QA := Lib.hid (Q5.out.drew.trans hq)
  clear hS hA hq
  have hord : ∀ (W : World), Holds W (bl qo 84 [.int .i64 o.kind, .int .i64 o.now, .int .i64 o.job, .int .i64 o.tr, .int .i64 o.wk, .int .i64 o.tm] * (inum (.slice (some ⟨gn, 0, none⟩) (m.length + 1) cn) (n :: m) * (lay w0 * (bl qx 86 [.int .i64 3, .int .i64 0, .int .i64 k, .int .i64 0, .int .i64 0, .int .i64 0, .int .i64 0, .int .i64 0, .int .i64 0] * (kst b bg told * (gld bg g * (wds (.slice (some ⟨gl, 0, none⟩) (r.length + 1 + 1 + 1) cl) (tTear :: a :: w1 :: r) * R))))))) → True := fun _ _ => trivial
  clear hord
  go_wp2_with fail
  have HX := Lib.hid (HA.out.drew.eq (by ac_rfl : _ = bl qx 86 [.int .i64 3, .int .i64 0, .int .i64 k, .int .i64 0, .int .i64 0, .int .i64 0, .int .i64 0, .int .i64 0, .int .i64 0] * (bl qo 84 [.int .i64 o.kind, .int .i64 o.now, .int .i64 o.job, .int .i64 o.tr, .int .i64 o.wk, .int .i64 o.tm] * (inum (.slice (some ⟨gn, 0, none⟩) (m.length + 1) cn) (n :: m) * (lay w0 * (kst b bg told * (gld bg g * (wds (.slice (some ⟨gl, 0, none⟩) (r.length + 1 + 1 + 1) cl) (tTear :: a :: w1 :: r) * R))))))))
  have y1 := HX.out.bl.cell 1 _ rfl
  have f1 := HX.out.bl.free 1
  refine wp_region_lex (fun W => W.cell? ⟨gn, 0, none⟩ = some (.int .i64 n) ∧ BlockAt W qo 84 [.int .i64 o.kind, .int .i64 o.now, .int .i64 o.job, .int .i64 o.tr, .int .i64 o.wk, .int .i64 o.tm]) [5, 7] (by kernel_rfl) (by kernel_rfl) ⟨inum_cell HX.out.three 0 _ rfl, HX.out.two.bl⟩ ?_
  repeat (first | (refine LexL.none (by rfl) ?_; (try simp only [Act.put, List.setIfInBounds_toArray, List.set_cons_zero, List.set_cons_succ])) | (refine LexL.still (v := ?_) (by rfl) ?_ ?_; rotate_left; (focus (intro W hW; (try dsimp only at hW); go_simp; (try (with_reducible rfl)); done)); (try simp only [Act.put, List.setIfInBounds_toArray, List.set_cons_zero, List.set_cons_succ])))
  refine LexL.still (v := .agg #[.int .i64 o.kind, .int .i64 o.now, .int .i64 o.job, .int .i64 o.tr, .int .i64 o.wk, .int .i64 o.tm]) (by rfl) (fun W hW => exec_load_part 84 _ rfl qo 0 rfl [.int .i64 o.kind, .int .i64 o.now, .int .i64 o.job, .int .i64 o.tr, .int .i64 o.wk, .int .i64 o.tm] hW.2 rfl Tryz.underlying84 rfl (by kernel_rfl)) ?_
  try simp only [Act.put, List.setIfInBounds_toArray, List.set_cons_zero, List.set_cons_succ]
  repeat (first | (refine LexL.none (by rfl) ?_; (try simp only [Act.put, List.setIfInBounds_toArray, List.set_cons_zero, List.set_cons_succ])) | (refine LexL.still (v := ?_) (by rfl) ?_ ?_; rotate_left; (focus (intro W hW; (try dsimp only at hW); go_simp; (try (with_reducible rfl)); done)); (try simp only [Act.put, List.setIfInBounds_toArray, List.set_cons_zero, List.set_cons_succ])))
  have HX2 := Lib.hid (HX.out.setB 1 (.int .i64 n))
  refine LexL.store (w1 := W.drew.setCell ⟨qx, 1, none⟩ (.int .i64 n)) (by rfl) (by decide) (by go_simp) ⟨inum_cell HX2.out.three 0 _ rfl, HX2.out.two.bl⟩ ?_
  try simp only [Act.put, List.setIfInBounds_toArray, List.set_cons_zero, List.set_cons_succ]
  repeat (first | (refine LexL.none (by rfl) ?_; (try simp only [Act.put, List.setIfInBounds_toArray, List.set_cons_zero, List.set_cons_succ])) | (refine LexL.still (v := ?_) (by rfl) ?_ ?_; rotate_left; (focus (intro W hW; (try dsimp only at hW); go_simp; (try (with_reducible rfl)); done)); (try simp only [Act.put, List.setIfInBounds_toArray, List.set_cons_zero, List.set_cons_succ])))
  refine LexL.storeP (q := qx) (off := 3) (t := 86) (cs := [.int .i64 3, .int .i64 0, .int .i64 k, .int .i64 0, .int .i64 0, .int .i64 0, .int .i64 0, .int .i64 0, .int .i64 0].set 1 (.int .i64 n)) 84 _ _ rfl [.int .i64 o.kind, .int .i64 o.now, .int .i64 o.job, .int .i64 o.tr, .int .i64 o.wk, .int .i64 o.tm] rfl rfl (by simp) (by kernel_rfl) (by simp [Ones, Value.oneCell']) (by rfl) (by decide) HX2.out ?_
  intro W3 h3 q3
  have H3 : Hid (Holds W3 (bl qx 86 [.int .i64 3, .int .i64 n, .int .i64 k, .int .i64 o.kind, .int .i64 o.now, .int .i64 o.job, .int .i64 o.tr, .int .i64 o.wk, .int .i64 o.tm] * (bl qo 84 [.int .i64 o.kind, .int .i64 o.now, .int .i64 o.job, .int .i64 o.tr, .int .i64 o.wk, .int .i64 o.tm] * (inum (.slice (some ⟨gn, 0, none⟩) (m.length + 1) cn) (n :: m) * (lay w0 * (kst b bg told * (gld bg g * (wds (.slice (some ⟨gl, 0, none⟩) (r.length + 1 + 1 + 1) cl) (tTear :: a :: w1 :: r) * R)))))))) := Lib.hid h3
  have Q3 := Lib.hid ((QA.out.drew.setCell ⟨qx, 1, none⟩ (.int .i64 n)).trans q3)
  refine ⟨⟨inum_cell H3.out.three 0 _ rfl, H3.out.two.bl⟩, ?_⟩
  clear h3 q3 y1 f1
  try simp only [Act.put, List.setIfInBounds_toArray, List.set_cons_zero, List.set_cons_succ]
  refine LexL.done ?_
  go_wp2_with fail
  obtain ⟨RX, hRX⟩ : ∃ RX : HP, (bl qx 86 [.int .i64 3, .int .i64 n, .int .i64 k, .int .i64 o.kind, .int .i64 o.now, .int .i64 o.job, .int .i64 o.tr, .int .i64 o.wk, .int .i64 o.tm] * (bl qo 84 [.int .i64 o.kind, .int .i64 o.now, .int .i64 o.job, .int .i64 o.tr, .int .i64 o.wk, .int .i64 o.tm] * inum (.slice (some ⟨gn, 0, none⟩) (m.length + 1) cn) (n :: m))) = RX := ⟨_, rfl⟩
  have hx4 : Holds W3.drew (gld bg g * (kst b bg told * (lay w0 * (RX * (wds (.slice (some ⟨gl, 0, none⟩) (r.length + 1 + 1 + 1) cl) (tTear :: a :: w1 :: r) * R))))) := by
    rw [← hRX]
    exact H3.out.drew.eq (by ac_rfl)
  have mkS : ∀ (W : World) (td : List UInt8) (A B : HP), Holds W (A * (kst b bg td * (lay w0 * (RX * B)))) → W.cell? ⟨b, 2, none⟩ = some (.pointer (some ⟨bg, 0, none⟩)) ∧ BlockAt W qx 86 [.int .i64 3, .int .i64 n, .int .i64 k, .int .i64 o.kind, .int .i64 o.now, .int .i64 o.job, .int .i64 o.tr, .int .i64 o.wk, .int .i64 o.tm] ∧ W.cell? ⟨qx, 0, none⟩ = some (.int .i64 3) ∧ W.cell? ⟨qo, 0, none⟩ = some (.int .i64 o.kind) := fun W td A B h => by
    have h2 := h.four
    rw [← hRX] at h2
    exact ⟨kst_bg h.two, h2.left.bl, h2.left.bl.cell 0 _ rfl, h2.left.two.bl.cell 0 _ rfl⟩
  have HX4 := Lib.hid hx4; have MKS := Lib.hid mkS; have HRX := Lib.hid hRX
  clear hx4 mkS hRX
  obtain ⟨lg, hlg⟩ := HG.out
  have HA4 := Lib.hid (step_small hlg ⟨3, n, k, o⟩)
  refine wp_region_lex (fun W => W.cell? ⟨b, 2, none⟩ = some (.pointer (some ⟨bg, 0, none⟩)) ∧ BlockAt W qx 86 [.int .i64 3, .int .i64 n, .int .i64 k, .int .i64 o.kind, .int .i64 o.now, .int .i64 o.job, .int .i64 o.tr, .int .i64 o.wk, .int .i64 o.tm] ∧ W.cell? ⟨qx, 0, none⟩ = some (.int .i64 3) ∧ W.cell? ⟨qo, 0, none⟩ = some (.int .i64 o.kind)) [6, 15] (by kernel_rfl) (by kernel_rfl) (MKS.out _ _ _ _ HX4.out) ?_
  repeat (first | (refine LexL.none (by rfl) ?_; (try simp only [Act.put, List.setIfInBounds_toArray, List.set_cons_zero, List.set_cons_succ])) | (refine LexL.still (v := ?_) (by rfl) ?_ ?_; rotate_left; (focus (intro W hW; (try dsimp only at hW); go_simp; (try (with_reducible rfl)); done)); (try simp only [Act.put, List.setIfInBounds_toArray, List.set_cons_zero, List.set_cons_succ])))
  refine LexL.still (v := .agg #[.int .i64 3, .int .i64 n, .int .i64 k, .int .i64 o.kind, .int .i64 o.now, .int .i64 o.job, .int .i64 o.tr, .int .i64 o.wk, .int .i64 o.tm]) (by rfl) (fun W hW => exec_load_part 86 _ rfl qx 0 rfl [.int .i64 3, .int .i64 n, .int .i64 k, .int .i64 o.kind, .int .i64 o.now, .int .i64 o.job, .int .i64 o.tr, .int .i64 o.wk, .int .i64 o.tm] hW.2.1 rfl Tryz.underlying86 rfl (by kernel_rfl)) ?_
  try simp only [Act.put, List.setIfInBounds_toArray, List.set_cons_zero, List.set_cons_succ]
  refine LexL.call (f := 44) (args := #[.pointer (some ⟨bg, 0, none⟩), .agg #[.int .i64 3, .int .i64 n, .int .i64 k, .int .i64 o.kind, .int .i64 o.now, .int .i64 o.job, .int .i64 o.tr, .int .i64 o.wk, .int .i64 o.tm]]) (w1 := W3.drew) (by rfl) (by decide) (by go_simp) ?_
  refine (gstep_sl bg g 3 n k o.kind o.now o.job o.tr o.wk o.tm _ HX4.out HG.out).mono ?_
  rintro e W5 ⟨rfl, q5, h5⟩
  have H5' := Lib.hid (show Holds W5 (gld bg (g.step ⟨3, n, k, o⟩).1 * _) from h5); have Q5' := Lib.hid (Q3.out.drew.trans q5)
  clear h5 q5
  refine ⟨_, rfl, MKS.out _ _ _ _ H5'.out, ?_⟩
  try simp only [Act.put, List.setIfInBounds_toArray, List.set_cons_zero, List.set_cons_succ]
  repeat (first | (refine LexL.none (by rfl) ?_; (try simp only [Act.put, List.setIfInBounds_toArray, List.set_cons_zero, List.set_cons_succ])) | (refine LexL.still (v := ?_) (by rfl) ?_ ?_; rotate_left; (focus (intro W hW; (try dsimp only at hW); go_simp; (try (with_reducible rfl)); done)); (try simp only [Act.put, List.setIfInBounds_toArray, List.set_cons_zero, List.set_cons_succ])))
  refine LexL.call (f := 43) (args := #[.pointer (some ⟨b, 0, none⟩), (g.step ⟨3, n, k, o⟩).2.val, .bool false]) (w1 := W5) (by rfl) (by decide) (by go_simp) ?_
  refine (answer_sl b bg told (g.step ⟨3, n, k, o⟩).2 false W5 (H5'.out.two.eq (by ac_rfl : _ = kst b bg told * (lay w0 * (gld bg (g.step ⟨3, n, k, o⟩).1 * (RX * (wds (.slice (some ⟨gl, 0, none⟩) (r.length + 1 + 1 + 1) cl) (tTear :: a :: w1 :: r) * R)))))) HA4.out (by omega)).mono ?_
  rintro e W6 ⟨rfl, q6, h6⟩
  have H6 := Lib.hid (h6.eq (by ac_rfl : _ = RX * (kst b bg (told ++ line (ansTxt (g.step ⟨3, n, k, o⟩).2 false)) * (gld bg (g.step ⟨3, n, k, o⟩).1 * (wds (.slice (some ⟨gl, 0, none⟩) (r.length + 1 + 1 + 1) cl) (tTear :: a :: w1 :: r) * (lay w0 * R))))))
  have Q6 := Lib.hid (Q5'.out.trans q6)
  refine ⟨_, rfl, MKS.out _ _ (gld bg (g.step ⟨3, n, k, o⟩).1) _ (H6.out.eq (by ac_rfl : _ = gld bg (g.step ⟨3, n, k, o⟩).1 * (kst b bg (told ++ line (ansTxt (g.step ⟨3, n, k, o⟩).2 false)) * (lay w0 * (RX * (wds (.slice (some ⟨gl, 0, none⟩) (r.length + 1 + 1 + 1) cl) (tTear :: a :: w1 :: r) * R)))))), ?_⟩
  clear h6 q6
  try simp only [Act.put, List.setIfInBounds_toArray, List.set_cons_zero, List.set_cons_succ]
  refine LexL.done ?_
  go_wp2
  go_ret
  exact ⟨rfl, Q6.out, H6.out.right⟩
end Go.Proofs.YtfihmpkkpgmdhaaGreatDoor

/-
  desk.node: what is no order; its contract whole.
-/
namespace Go.Proofs.YtfihmpkkpgmdhaaGreatDoor
set_option maxRecDepth 100000
set_option linter.unusedSimpArgs false
set_option linter.unusedVariables false
set_option linter.unnecessarySimpa false
open Go.RowKit

set_option maxHeartbeats 8000000 in
theorem node_n1 (b bg : Nat) (told : List UInt8) (g : Gld) (v : Value) (w1 : List UInt8) (w : World) {w0 : World} {R : HP}
    (h : Holds w (kst b bg told * (gld bg g * (wds v [w1] * (lay w0 * R))))) (hg : g.Good) (hs : ∀ s ∈ [w1], s.length ≤ 100000) (h1 : w1 ≠ tTear) (ht : told.length ≤ 300000000) :
    Calls Tryz.prog 24 #[.pointer (some ⟨b, 0, none⟩), v] w fun e w' => e = .returned (.bool false) ∧ Quiet w w' ∧ Holds w' (kst b bg told * (gld bg g * (wds v [w1] * (lay w0 * R)))) := by
  obtain ⟨gl, cl, rfl, c1, c2⟩ := wds_cons h.three
  simp only [List.length_nil, Nat.zero_add] at c1 h ⊢
  obtain ⟨wa, hwa, H0, Q0⟩ : ∃ wa, w.alloc (.cells #[.int .i64 0, .int .i64 0, .int .i64 0, .int .i64 0, .int .i64 0, .int .i64 0, .int .i64 0, .int .i64 0, .int .i64 0] 86) = wa ∧ Hid (Holds wa (bl w.heap.size 86 (zstep 0) * (kst b bg told * (gld bg g * (wds (.slice (some ⟨gl, 0, none⟩) 1 cl) [w1] * (lay w0 * R)))))) ∧ Hid (Quiet w wa) :=
    ⟨_, rfl, Lib.hid (h.boxB (ty := 86) (cs := zstep 0) rfl), Lib.hid ((Quiet.refl w).alloc _)⟩
  have HS := Lib.hid hs; have HG := Lib.hid hg
  have hb0 := bytes_no h1
  simp only [tTear] at hb0
  clear h hs hg h1
  obtain ⟨qx, hqx⟩ : ∃ qx, w.heap.size = qx := ⟨_, rfl⟩
  rw [hqx] at H0
  go_enter Tryz.func24, Tryz.ntmps24
  go_wp2_with (first | (refine wpList_built rfl 86 _ rfl (zstep 2) (by kernel_rfl) ?_) | (refine wpList_store_whole rfl 86 _ _ rfl qx (zstep 2) rfl rfl H0.out.bl rfl (by kernel_rfl) (by simp [Ones, zstep, Value.oneCell']) ?_; intro wb h1' h2' h3'; have HB := Lib.hid (H0.out.grown h2' h1'); have QB := Lib.hid (Q0.out.trans (Quiet.grown h2')); have l0 := wds_cells HB.out.four 0 _ rfl; clear h1' h2' h3'))
  go_ret
  exact ⟨rfl, QB.out, HB.out.right⟩

set_option maxHeartbeats 8000000 in
theorem node_n2 (b bg : Nat) (told : List UInt8) (g : Gld) (v : Value) (w1 : List UInt8) (r0 : List UInt8) (r : List (List UInt8))  (w : World) {w0 : World} {R : HP}
    (h : Holds w (kst b bg told * (gld bg g * (wds v (w1 :: r0 :: r) * (lay w0 * R))))) (hg : g.Good) (hl : r.length ≤ 10000) (hs : ∀ s ∈ w1 :: r0 :: r, s.length ≤ 100000) (h1 : w1 ≠ tTear) (hr : numsOf (r0 :: r) = none) (ht : told.length ≤ 300000000) :
    Calls Tryz.prog 24 #[.pointer (some ⟨b, 0, none⟩), v] w fun e w' => e = .returned (.bool false) ∧ Quiet w w' ∧ Holds w' (kst b bg told * (gld bg g * (wds v (w1 :: r0 :: r) * (lay w0 * R)))) := by
  obtain ⟨gl, cl, rfl, c1, c2⟩ := wds_cons h.three
  simp only [List.length_cons] at c1 h ⊢
  obtain ⟨wa, hwa, H0, Q0⟩ : ∃ wa, w.alloc (.cells #[.int .i64 0, .int .i64 0, .int .i64 0, .int .i64 0, .int .i64 0, .int .i64 0, .int .i64 0, .int .i64 0, .int .i64 0] 86) = wa ∧ Hid (Holds wa (bl w.heap.size 86 (zstep 0) * (kst b bg told * (gld bg g * (wds (.slice (some ⟨gl, 0, none⟩) (r.length + 1 + 1) cl) (w1 :: r0 :: r) * (lay w0 * R)))))) ∧ Hid (Quiet w wa) :=
    ⟨_, rfl, Lib.hid (h.boxB (ty := 86) (cs := zstep 0) rfl), Lib.hid ((Quiet.refl w).alloc _)⟩
  have HR := Lib.hid hr; have HS := Lib.hid hs; have HG := Lib.hid hg
  have hb0 := bytes_no h1
  simp only [tTear] at hb0
  clear h hr hs hg h1
  obtain ⟨qx, hqx⟩ : ∃ qx, w.heap.size = qx := ⟨_, rfl⟩
  rw [hqx] at H0
  have hl2 : ¬ ((r.length : Int) + 1 + 1 < 2) := by omega
  go_enter Tryz.func24, Tryz.ntmps24
  go_wp2_with (first | (refine wpList_built rfl 86 _ rfl (zstep 2) (by kernel_rfl) ?_) | (refine wpList_store_whole rfl 86 _ _ rfl qx (zstep 2) rfl rfl H0.out.bl rfl (by kernel_rfl) (by simp [Ones, zstep, Value.oneCell']) ?_; intro wb h1' h2' h3'; have HB := Lib.hid (H0.out.grown h2' h1'); have QB := Lib.hid (Q0.out.trans (Quiet.grown h2')); have l0 := wds_cells HB.out.four 0 _ rfl; clear h1' h2' h3'))
  have hv2 : RowAt wb (.slice (some ⟨gl, 1, none⟩) (r.length + 1) (cl - 1)) (r.length + 1) (svls (r0 :: r)) := wds_tail HB.out.four rfl (q := 1) (m := r.length + 1) (d := cl - 1) (by omega) (by omega)
  refine (numbers_no _ (r0 :: r) _ (HB.out.eq (by ac_rfl : _ = lay w0 * (bl qx 86 (zstep 2) * (kst b bg told * (gld bg g * (wds (.slice (some ⟨gl, 0, none⟩) (r.length + 1 + 1) cl) (w1 :: r0 :: r) * R)))))) hv2 (by simp; omega) (fun s hs => HS.out s (List.mem_cons_of_mem _ hs)) HR.out).mono ?_
  rintro e w5 ⟨rfl, q5, h5⟩
  have H5 := Lib.hid (h5.eq (by ac_rfl : _ = bl qx 86 (zstep 2) * (kst b bg told * (gld bg g * (wds (.slice (some ⟨gl, 0, none⟩) (r.length + 1 + 1) cl) (w1 :: r0 :: r) * (lay w0 * R)))))); have Q5 := Lib.hid (QB.out.trans q5)
  clear h5 q5 hv2
  go_wp2
  go_ret
  exact ⟨rfl, Q5.out, H5.out.right⟩

set_option maxHeartbeats 8000000 in
theorem node_n3 (b bg : Nat) (told : List UInt8) (g : Gld) (v : Value) (w1 : List UInt8) (r : List (List UInt8)) (n : Int) (m : List Int) (w : World) {w0 : World} {R : HP}
    (h : Holds w (kst b bg told * (gld bg g * (wds v (w1 :: r) * (lay w0 * R))))) (hg : g.Good) (hl : r.length ≤ 10000) (hs : ∀ s ∈ w1 :: r, s.length ≤ 100000) (h1 : w1 ≠ tTear) (hr : numsOf r = some (n :: m)) (hw : w1 ≠ []) (ho : orderOf w1 m = none) (ht : told.length ≤ 300000000) :
    Calls Tryz.prog 24 #[.pointer (some ⟨b, 0, none⟩), v] w fun e w' => e = .returned (.bool false) ∧ Quiet w w' ∧ Holds w' (kst b bg told * (gld bg g * (wds v (w1 :: r) * (lay w0 * R)))) := by
  have hrl := numsOf_len hr
  obtain ⟨gl, cl, rfl, c1, c2⟩ := wds_cons h.three
  obtain ⟨wa, hwa, H0, Q0⟩ : ∃ wa, w.alloc (.cells #[.int .i64 0, .int .i64 0, .int .i64 0, .int .i64 0, .int .i64 0, .int .i64 0, .int .i64 0, .int .i64 0, .int .i64 0] 86) = wa ∧ Hid (Holds wa (bl w.heap.size 86 (zstep 0) * (kst b bg told * (gld bg g * (wds (.slice (some ⟨gl, 0, none⟩) (r.length + 1) cl) (w1 :: r) * (lay w0 * R)))))) ∧ Hid (Quiet w wa) :=
    ⟨_, rfl, Lib.hid (h.boxB (ty := 86) (cs := zstep 0) rfl), Lib.hid ((Quiet.refl w).alloc _)⟩
  have HR := Lib.hid hr; have HO := Lib.hid ho; have HW := Lib.hid hw; have HS := Lib.hid hs; have HG := Lib.hid hg
  have hb0 := bytes_no h1
  simp only [tTear] at hb0
  clear h hr ho hs hg h1
  obtain ⟨qx, hqx⟩ : ∃ qx, w.heap.size = qx := ⟨_, rfl⟩
  rw [hqx] at H0
  have hr2 : r.length = m.length + 1 := by rw [← hrl]; rfl
  have hl2 : ¬ ((r.length : Int) + 1 < 2) := by omega
  clear hrl
  go_enter Tryz.func24, Tryz.ntmps24
  go_wp2_with (first | (refine wpList_built rfl 86 _ rfl (zstep 2) (by kernel_rfl) ?_) | (refine wpList_store_whole rfl 86 _ _ rfl qx (zstep 2) rfl rfl H0.out.bl rfl (by kernel_rfl) (by simp [Ones, zstep, Value.oneCell']) ?_; intro wb h1' h2' h3'; have HB := Lib.hid (H0.out.grown h2' h1'); have QB := Lib.hid (Q0.out.trans (Quiet.grown h2')); have l0 := wds_cells HB.out.four 0 _ rfl; clear h1' h2' h3'))
  have hv2 : RowAt wb (.slice (some ⟨gl, 1, none⟩) (m.length + 1) (cl - 1)) r.length (svls r) := by rw [hr2]; exact wds_tail HB.out.four (by simp <;> omega) (by omega) (by omega)
  refine (numbers_sl _ r (n :: m) _ (HB.out.eq (by ac_rfl : _ = lay w0 * (bl qx 86 (zstep 2) * (kst b bg told * (gld bg g * (wds (.slice (some ⟨gl, 0, none⟩) (r.length + 1) cl) (w1 :: r) * R)))))) hv2 (by omega) (fun s hs => HS.out s (List.mem_cons_of_mem _ hs)) HR.out).mono ?_
  rintro e w5 ⟨v5, rfl, q5, h5⟩
  obtain ⟨gn, cn, rfl, d1, d2⟩ := inum_cons h5
  have H5 := Lib.hid h5; have Q5 := Lib.hid (QB.out.trans q5)
  clear h5 q5 hv2
  go_wp2_with fail
  have l5 : w5.drew.cell? ⟨gl, 0, none⟩ = some (.string (strOf w1)) := wds_cells (H5.out.drew.eq (by ac_rfl : _ = wds (.slice (some ⟨gl, 0, none⟩) (r.length + 1) cl) (w1 :: r) * (inum (.slice (some ⟨gn, 0, none⟩) (m.length + 1) cn) (n :: m) * (lay w0 * (bl qx 86 (zstep 2) * (kst b bg told * (gld bg g * R))))))) 0 _ rfl
  refine wp_region_lexH (fun W => W.cell? ⟨gl, 0, none⟩ = some (.string (strOf w1))) [5, 10] [9] (fz1 9 84 zord) _ (by kernel_rfl) (by kernel_rfl) (by kernel_rfl) fz1_fl fz1_no (fz1_ok rfl ⟨rfl, fun a w => by kernel_rfl⟩) (fun W o h => cell_alloc_keep h o) l5 H5.out.drew ?_
  clear l5
  have hp1 : (0 : Int) < (m.length : Int) + 1 + 1 := by omega
  have hp2 : ¬ (m.length : Int) + 1 < 1 := by omega
  repeat (first | (refine LexHL.still (v := ?_) (by rfl) (by rfl) ?_ ?_; rotate_left; (focus (intro W hW; (try dsimp only at hW); go_simp; (try (with_reducible rfl)); done)); (try simp only [Act.put, List.setIfInBounds_toArray, List.set_cons_zero, List.set_cons_succ])))
  obtain ⟨vn, hvn⟩ : ∃ vn : Option Addr, (if cn = 1 then some ⟨gn, 0, none⟩ else some ⟨gn, 1, none⟩) = vn := ⟨_, rfl⟩
  have HVN := Lib.hid hvn; clear hvn
  refine LexHL.still (v := .slice vn m.length (cn - 1)) rfl rfl (fun W hW => by rw [← HVN.out]; go_simp) ?_
  try simp only [Act.put, List.setIfInBounds_toArray, List.set_cons_zero, List.set_cons_succ]
  refine LexHL.call (f := 42) (args := #[.string (strOf w1), .slice vn m.length (cn - 1)]) rfl rfl (by decide) (fun W hS => by go_simp) ?_
  intro W R1 hS hq hA
  have hrow : RowAt W (.slice vn m.length (cn - 1)) m.length (ivs m) := by
    rw [← HVN.out]
    have := inum_tail (show Holds W (rw_ 3 1 (.slice (some ⟨gn, 0, none⟩) (m.length + 1) cn) (m.length + 1) (ivs (n :: m)) * _) from hA.eq (HP.assoc _ _ _)) rfl (by omega)
    simpa using this
  refine (order_no _ w1 m W hrow HW.out HO.out hA).mono ?_
  rintro e w6 ⟨rfl, q6, h6⟩
  refine ⟨_, rfl, wds_cells (h6.eq (by ac_rfl : _ = wds (.slice (some ⟨gl, 0, none⟩) (r.length + 1) cl) (w1 :: r) * (inum (.slice (some ⟨gn, 0, none⟩) (m.length + 1) cn) (n :: m) * (lay w0 * (bl qx 86 (zstep 2) * (kst b bg told * (gld bg g * R)))) * R1))) 0 _ rfl, hq.trans q6, _, h6, ?_⟩
  clear hS hq hA hrow q6 h6
  dsimp only
  repeat (first | (refine LexHL.still (v := ?_) (by rfl) (by rfl) ?_ ?_; rotate_left; (focus (intro W hW; (try dsimp only at hW); go_simp; (try (with_reducible rfl)); done)); (try simp only [Act.put, List.setIfInBounds_toArray, List.set_cons_zero, List.set_cons_succ])))
  refine LexHL.made rfl ?_
  intro qo hlv
  clear hlv
  try simp only [Act.put, List.setIfInBounds_toArray, List.set_cons_zero, List.set_cons_succ]
  refine LexHL.storeB (q := qo) (t := 84) (cs := zord) (B := inum (.slice (some ⟨gn, 0, none⟩) (m.length + 1) cn) (n :: m) * (lay w0 * (bl qx 86 (zstep 2) * (kst b bg told * (gld bg g * (wds (.slice (some ⟨gl, 0, none⟩) (r.length + 1) cl) (w1 :: r) * R)))))) 84 _ _ rfl zord rfl rfl rfl (by kernel_rfl) (by simp [Ones, zord, Value.oneCell']) rfl rfl (by decide) rfl (fun W R2 h => wds_cells (h.eq (by ac_rfl : _ = wds (.slice (some ⟨gl, 0, none⟩) (r.length + 1) cl) (w1 :: r) * (bl qo 84 zord * (inum (.slice (some ⟨gn, 0, none⟩) (m.length + 1) cn) (n :: m) * (lay w0 * (bl qx 86 (zstep 2) * (kst b bg told * (gld bg g * R))))) * R2))) 0 _ rfl) ?_
  try simp only [Act.put, List.setIfInBounds_toArray, List.set_cons_zero, List.set_cons_succ]
  repeat (first | (refine LexHL.still (v := ?_) (by rfl) (by rfl) ?_ ?_; rotate_left; (focus (intro W hW; (try dsimp only at hW); go_simp; (try (with_reducible rfl)); done)); (try simp only [Act.put, List.setIfInBounds_toArray, List.set_cons_zero, List.set_cons_succ])))
  refine LexHL.done ?_
  intro W hS hA hq
  have HA := Lib.hid hA; have QA := Lib.hid (Q5.out.drew.trans hq)
  clear hS hA hq
  go_wp2
  go_ret
  have hf := (HA.out.eq (by ac_rfl : _ = bl qo 84 zord * inum (.slice (some ⟨gn, 0, none⟩) (m.length + 1) cn) (n :: m) * bl qx 86 (zstep 2) * (kst b bg told * (gld bg g * (wds (.slice (some ⟨gl, 0, none⟩) (r.length + 1) cl) (w1 :: r) * (lay w0 * R)))))).right
  rw [hr2] at hf
  exact ⟨rfl, QA.out, hf⟩

set_option maxHeartbeats 8000000 in
theorem node_t6 (b bg : Nat) (told : List UInt8) (g : Gld) (v : Value) (a w1 : List UInt8) (r : List (List UInt8)) (k : Int) (n : Int) (m : List Int) (w : World) {w0 : World} {R : HP}
    (h : Holds w (kst b bg told * (gld bg g * (wds v (tTear :: a :: w1 :: r) * (lay w0 * R))))) (hg : g.Good) (hl : r.length ≤ 10000) (hs : ∀ s ∈ tTear :: a :: w1 :: r, s.length ≤ 100000) (hk : numOf a = some k) (hr : numsOf r = some (n :: m)) (hw : w1 ≠ []) (ho : orderOf w1 m = none) (ht : told.length ≤ 300000000) :
    Calls Tryz.prog 24 #[.pointer (some ⟨b, 0, none⟩), v] w fun e w' => e = .returned (.bool false) ∧ Quiet w w' ∧ Holds w' (kst b bg told * (gld bg g * (wds v (tTear :: a :: w1 :: r) * (lay w0 * R)))) := by
  have hrl := numsOf_len hr
  obtain ⟨gl, cl, rfl, c1, c2⟩ := wds_cons h.three
  simp only [List.length_cons] at c1 h ⊢
  obtain ⟨wa, hwa, H0, Q0⟩ : ∃ wa, w.alloc (.cells #[.int .i64 0, .int .i64 0, .int .i64 0, .int .i64 0, .int .i64 0, .int .i64 0, .int .i64 0, .int .i64 0, .int .i64 0] 86) = wa ∧ Hid (Holds wa (bl w.heap.size 86 (zstep 0) * (kst b bg told * (gld bg g * (wds (.slice (some ⟨gl, 0, none⟩) (r.length + 1 + 1 + 1) cl) (tTear :: a :: w1 :: r) * (lay w0 * R)))))) ∧ Hid (Quiet w wa) :=
    ⟨_, rfl, Lib.hid (h.boxB (ty := 86) (cs := zstep 0) rfl), Lib.hid ((Quiet.refl w).alloc _)⟩
  have HR := Lib.hid hr; have HO := Lib.hid ho; have HW := Lib.hid hw; have HS := Lib.hid hs; have HG := Lib.hid hg
  have HK := Lib.hid (show numsOf [a] = some [k] by simp [numsOf, hk])
  clear h hr ho hs hg hk
  obtain ⟨qx, hqx⟩ : ∃ qx, w.heap.size = qx := ⟨_, rfl⟩
  rw [hqx] at H0
  have hr2 : r.length = m.length + 1 := by rw [← hrl]; rfl
  have hl2 : ¬ ((m.length : Int) + 1 + 1 + 1 + 1 < 2) := by omega
  have hl3 : ¬ ((m.length : Int) + 1 + 1 < 2) := by omega
  have hc1 : ¬ cl = 1 := by omega
  have hc2 : ¬ cl = 2 := by omega
  have hc3 : ¬ cl - 2 = 1 := by omega
  obtain ⟨T, hT⟩ : ∃ T, strOf tTear = T := ⟨_, rfl⟩
  have hb0 : (T.toList == [116, 101, 97, 114]) = true := by rw [← hT]; exact bytes_yes tTear
  have HT := Lib.hid hT; clear hT
  clear hrl
  go_enter Tryz.func24, Tryz.ntmps24
  go_wp2_with (first | (refine wpList_built rfl 86 _ rfl (zstep 2) (by kernel_rfl) ?_) | (refine wpList_store_whole rfl 86 _ _ rfl qx (zstep 2) rfl rfl H0.out.bl rfl (by kernel_rfl) (by simp [Ones, zstep, Value.oneCell']) ?_; intro wb h1' h2' h3'; have HB := Lib.hid (H0.out.grown h2' h1'); have QB := Lib.hid (Q0.out.trans (Quiet.grown h2')); have l0 := wds_cells HB.out.four 0 _ rfl; rw [HT.out] at l0; clear h1' h2' h3'))
  have hv1 : RowAt wb (.slice (some ⟨gl, 1, none⟩) 1 (cl - 1)) 1 (svls [a]) := wds_part HB.out.four rfl (q := 1) (m := 1) (d := cl - 1) (by omega) (by omega)
  refine (numbers_sl _ [a] [k] _ (HB.out.eq (by ac_rfl : _ = lay w0 * (bl qx 86 (zstep 2) * (kst b bg told * (gld bg g * (wds (.slice (some ⟨gl, 0, none⟩) (r.length + 1 + 1 + 1) cl) (tTear :: a :: w1 :: r) * R)))))) hv1 (by simp) (fun s hs => HS.out s (by simp at hs; simp [hs])) HK.out).mono ?_
  rintro e w3 ⟨v3, rfl, q3, h3⟩
  obtain ⟨gk, ck, rfl, e1, e2⟩ := inum_cons h3
  replace h3 : Holds w3 (inum (.slice (some ⟨gk, 0, none⟩) 1 ck) [k] * (lay w0 * (bl qx 86 (zstep 2) * (kst b bg told * (gld bg g * (wds (.slice (some ⟨gl, 0, none⟩) (r.length + 1 + 1 + 1) cl) (tTear :: a :: w1 :: r) * R)))))) := h3
  have HK3 := Lib.hid (h3.drew.eq (by ac_rfl : _ = bl qx 86 (zstep 2) * (inum (.slice (some ⟨gk, 0, none⟩) 1 ck) [k] * (kst b bg told * (gld bg g * (wds (.slice (some ⟨gl, 0, none⟩) (r.length + 1 + 1 + 1) cl) (tTear :: a :: w1 :: r) * (lay w0 * R)))))))
  have QK3 := Lib.hid ((QB.out.trans q3).drew)
  have y0 := HK3.out.bl.cell 0 _ rfl; have f0 := HK3.out.bl.free 0; have y2 := HK3.out.bl.cell 2 _ rfl; have f2 := HK3.out.bl.free 2
  have y2' : w3.cell? ⟨qx, 2, none⟩ = some (.int .i64 0) := y2
  have f2' : w3.frozen? ⟨qx, 2, none⟩ = false := f2
  clear h3 q3 hv1
  go_wp2_with fail
  have HK4 := Lib.hid (HK3.out.setB 0 (.int .i64 3))
  have HK5 := Lib.hid (HK4.out.setB 2 (.int .i64 k))
  refine wp_region_lex (fun W => W.cell? ⟨gk, 0, none⟩ = some (.int .i64 k)) [4, 6] (by kernel_rfl) (by kernel_rfl) (inum_cell HK3.out.two 0 _ rfl) ?_
  repeat (first | (refine LexL.none (by rfl) ?_; (try simp only [Act.put, List.setIfInBounds_toArray, List.set_cons_zero, List.set_cons_succ])) | (refine LexL.still (v := ?_) (by rfl) ?_ ?_; rotate_left; (focus (intro W hW; (try dsimp only at hW); go_simp; (try (with_reducible rfl)); done)); (try simp only [Act.put, List.setIfInBounds_toArray, List.set_cons_zero, List.set_cons_succ])))
  refine LexL.store (w1 := w3.drew.setCell ⟨qx, 0, none⟩ (.int .i64 3)) (by rfl) (by decide) (by go_simp) (inum_cell HK4.out.two 0 _ rfl) ?_
  try simp only [Act.put, List.setIfInBounds_toArray, List.set_cons_zero, List.set_cons_succ]
  repeat (first | (refine LexL.none (by rfl) ?_; (try simp only [Act.put, List.setIfInBounds_toArray, List.set_cons_zero, List.set_cons_succ])) | (refine LexL.still (v := ?_) (by rfl) ?_ ?_; rotate_left; (focus (intro W hW; (try dsimp only at hW); go_simp; (try (with_reducible rfl)); done)); (try simp only [Act.put, List.setIfInBounds_toArray, List.set_cons_zero, List.set_cons_succ])))
  refine LexL.store (w1 := (w3.drew.setCell ⟨qx, 0, none⟩ (.int .i64 3)).setCell ⟨qx, 2, none⟩ (.int .i64 k)) (by rfl) (by decide) (by go_simp) (inum_cell HK5.out.two 0 _ rfl) ?_
  try simp only [Act.put, List.setIfInBounds_toArray, List.set_cons_zero, List.set_cons_succ]
  refine LexL.done ?_
  obtain ⟨wb2, hwb2⟩ : ∃ W, (w3.drew.setCell ⟨qx, 0, none⟩ (.int .i64 3)).setCell ⟨qx, 2, none⟩ (.int .i64 k) = W := ⟨_, rfl⟩
  have hb2 := HK5.out
  have hq2 := ((QK3.out.setCell ⟨qx, 0, none⟩ (.int .i64 3)).setCell ⟨qx, 2, none⟩ (.int .i64 k))
  rw [hwb2] at hb2 hq2 ⊢
  have HB := Lib.hid (show Holds wb2 (bl qx 86 [.int .i64 3, .int .i64 0, .int .i64 k, .int .i64 0, .int .i64 0, .int .i64 0, .int .i64 0, .int .i64 0, .int .i64 0] * (kst b bg told * (gld bg g * (wds (.slice (some ⟨gl, 0, none⟩) (r.length + 1 + 1 + 1) cl) (tTear :: a :: w1 :: r) * (lay w0 * R))))) from hb2.two.right)
  have QB := Lib.hid hq2
  clear hb2 hq2 hwb2 HK3 HK4 HK5 QK3 y0 f0 y2 f2 y2' f2' l0
  go_wp2_with fail
  have hv2 : RowAt wb2 (.slice (some ⟨gl, 3, none⟩) (m.length + 1) (cl - 2 - 1)) r.length (svls r) := by rw [hr2]; exact wds_tail HB.out.four rfl (q := 3) (m := m.length + 1) (d := cl - 2 - 1) (by omega) (by omega)
  refine (numbers_sl _ r (n :: m) _ (HB.out.eq (by ac_rfl : _ = lay w0 * (bl qx 86 [.int .i64 3, .int .i64 0, .int .i64 k, .int .i64 0, .int .i64 0, .int .i64 0, .int .i64 0, .int .i64 0, .int .i64 0] * (kst b bg told * (gld bg g * (wds (.slice (some ⟨gl, 0, none⟩) (r.length + 1 + 1 + 1) cl) (tTear :: a :: w1 :: r) * R)))))) hv2 (by omega) (fun s hs => HS.out s (List.mem_cons_of_mem _ (List.mem_cons_of_mem _ (List.mem_cons_of_mem _ hs)))) HR.out).mono ?_
  rintro e w5 ⟨v5, rfl, q5, h5⟩
  obtain ⟨gn, cn, rfl, d1, d2⟩ := inum_cons h5
  have H5 := Lib.hid h5; have Q5 := Lib.hid (QB.out.trans q5)
  clear h5 q5 hv2
  go_wp2_with fail
  have l5 : w5.drew.cell? ⟨gl, 2, none⟩ = some (.string (strOf w1)) := wds_cells (H5.out.drew.eq (by ac_rfl : _ = wds (.slice (some ⟨gl, 0, none⟩) (r.length + 1 + 1 + 1) cl) (tTear :: a :: w1 :: r) * (inum (.slice (some ⟨gn, 0, none⟩) (m.length + 1) cn) (n :: m) * (lay w0 * (bl qx 86 [.int .i64 3, .int .i64 0, .int .i64 k, .int .i64 0, .int .i64 0, .int .i64 0, .int .i64 0, .int .i64 0, .int .i64 0] * (kst b bg told * (gld bg g * R))))))) 2 _ rfl
  refine wp_region_lexH (fun W => W.cell? ⟨gl, 2, none⟩ = some (.string (strOf w1))) [5, 10] [9] (fz1 9 84 zord) _ (by kernel_rfl) (by kernel_rfl) (by kernel_rfl) fz1_fl fz1_no (fz1_ok rfl ⟨rfl, fun a w => by kernel_rfl⟩) (fun W o h => cell_alloc_keep h o) l5 H5.out.drew ?_
  clear l5
  have hp1 : (0 : Int) < (m.length : Int) + 2 := by omega
  have hp2 : ¬ (m.length : Int) + 1 < 1 := by omega
  repeat (first | (refine LexHL.still (v := ?_) (by rfl) (by rfl) ?_ ?_; rotate_left; (focus (intro W hW; (try dsimp only at hW); go_simp; (try (with_reducible rfl)); done)); (try simp only [Act.put, List.setIfInBounds_toArray, List.set_cons_zero, List.set_cons_succ])))
  obtain ⟨vn, hvn⟩ : ∃ vn : Option Addr, (if cn = 1 then some ⟨gn, 0, none⟩ else some ⟨gn, 1, none⟩) = vn := ⟨_, rfl⟩
  have HVN := Lib.hid hvn; clear hvn
  refine LexHL.still (v := .slice vn m.length (cn - 1)) rfl rfl (fun W hW => by rw [← HVN.out]; go_simp) ?_
  try simp only [Act.put, List.setIfInBounds_toArray, List.set_cons_zero, List.set_cons_succ]
  refine LexHL.call (f := 42) (args := #[.string (strOf w1), .slice vn m.length (cn - 1)]) rfl rfl (by decide) (fun W hS => by go_simp) ?_
  intro W R1 hS hq hA
  have hrow : RowAt W (.slice vn m.length (cn - 1)) m.length (ivs m) := by
    rw [← HVN.out]
    have := inum_tail (show Holds W (rw_ 3 1 (.slice (some ⟨gn, 0, none⟩) (m.length + 1) cn) (m.length + 1) (ivs (n :: m)) * _) from hA.eq (HP.assoc _ _ _)) rfl (by omega)
    simpa using this
  refine (order_no _ w1 m W hrow HW.out HO.out hA).mono ?_
  rintro e w6 ⟨rfl, q6, h6⟩
  refine ⟨_, rfl, wds_cells (h6.eq (by ac_rfl : _ = wds (.slice (some ⟨gl, 0, none⟩) (r.length + 1 + 1 + 1) cl) (tTear :: a :: w1 :: r) * (inum (.slice (some ⟨gn, 0, none⟩) (m.length + 1) cn) (n :: m) * (lay w0 * (bl qx 86 [.int .i64 3, .int .i64 0, .int .i64 k, .int .i64 0, .int .i64 0, .int .i64 0, .int .i64 0, .int .i64 0, .int .i64 0] * (kst b bg told * (gld bg g * R)))) * R1))) 2 _ rfl, hq.trans q6, _, h6, ?_⟩
  clear hS hq hA hrow q6 h6
  dsimp only
  repeat (first | (refine LexHL.still (v := ?_) (by rfl) (by rfl) ?_ ?_; rotate_left; (focus (intro W hW; (try dsimp only at hW); go_simp; (try (with_reducible rfl)); done)); (try simp only [Act.put, List.setIfInBounds_toArray, List.set_cons_zero, List.set_cons_succ])))
  refine LexHL.made rfl ?_
  intro qo hlv
  clear hlv
  try simp only [Act.put, List.setIfInBounds_toArray, List.set_cons_zero, List.set_cons_succ]
  refine LexHL.storeB (q := qo) (t := 84) (cs := zord) (B := inum (.slice (some ⟨gn, 0, none⟩) (m.length + 1) cn) (n :: m) * (lay w0 * (bl qx 86 [.int .i64 3, .int .i64 0, .int .i64 k, .int .i64 0, .int .i64 0, .int .i64 0, .int .i64 0, .int .i64 0, .int .i64 0] * (kst b bg told * (gld bg g * (wds (.slice (some ⟨gl, 0, none⟩) (r.length + 1 + 1 + 1) cl) (tTear :: a :: w1 :: r) * R)))))) 84 _ _ rfl zord rfl rfl rfl (by kernel_rfl) (by simp [Ones, zord, Value.oneCell']) rfl rfl (by decide) rfl (fun W R2 h => wds_cells (h.eq (by ac_rfl : _ = wds (.slice (some ⟨gl, 0, none⟩) (r.length + 1 + 1 + 1) cl) (tTear :: a :: w1 :: r) * (bl qo 84 zord * (inum (.slice (some ⟨gn, 0, none⟩) (m.length + 1) cn) (n :: m) * (lay w0 * (bl qx 86 [.int .i64 3, .int .i64 0, .int .i64 k, .int .i64 0, .int .i64 0, .int .i64 0, .int .i64 0, .int .i64 0, .int .i64 0] * (kst b bg told * (gld bg g * R))))) * R2))) 2 _ rfl) ?_
  try simp only [Act.put, List.setIfInBounds_toArray, List.set_cons_zero, List.set_cons_succ]
  repeat (first | (refine LexHL.still (v := ?_) (by rfl) (by rfl) ?_ ?_; rotate_left; (focus (intro W hW; (try dsimp only at hW); go_simp; (try (with_reducible rfl)); done)); (try simp only [Act.put, List.setIfInBounds_toArray, List.set_cons_zero, List.set_cons_succ])))
  refine LexHL.done ?_
  intro W hS hA hq
  have HA := Lib.hid hA; have QA := Lib.hid (Q5.out.drew.trans hq)
  clear hS hA hq
  go_wp2
  go_ret
  have hf := (HA.out.eq (by ac_rfl : _ = bl qo 84 zord * inum (.slice (some ⟨gn, 0, none⟩) (m.length + 1) cn) (n :: m) * bl qx 86 [.int .i64 3, .int .i64 0, .int .i64 k, .int .i64 0, .int .i64 0, .int .i64 0, .int .i64 0, .int .i64 0, .int .i64 0] * (kst b bg told * (gld bg g * (wds (.slice (some ⟨gl, 0, none⟩) (r.length + 1 + 1 + 1) cl) (tTear :: a :: w1 :: r) * (lay w0 * R)))))).right
  rw [hr2] at hf
  exact ⟨rfl, QA.out, hf⟩

set_option maxHeartbeats 8000000 in
theorem node_t5 (b bg : Nat) (told : List UInt8) (g : Gld) (v : Value) (a w1 : List UInt8) (r0 : List UInt8) (r : List (List UInt8)) (k : Int)  (w : World) {w0 : World} {R : HP}
    (h : Holds w (kst b bg told * (gld bg g * (wds v (tTear :: a :: w1 :: r0 :: r) * (lay w0 * R))))) (hg : g.Good) (hl : r.length ≤ 10000) (hs : ∀ s ∈ tTear :: a :: w1 :: r0 :: r, s.length ≤ 100000) (hk : numOf a = some k) (hr : numsOf (r0 :: r) = none) (ht : told.length ≤ 300000000) :
    Calls Tryz.prog 24 #[.pointer (some ⟨b, 0, none⟩), v] w fun e w' => e = .returned (.bool false) ∧ Quiet w w' ∧ Holds w' (kst b bg told * (gld bg g * (wds v (tTear :: a :: w1 :: r0 :: r) * (lay w0 * R)))) := by
  obtain ⟨gl, cl, rfl, c1, c2⟩ := wds_cons h.three
  simp only [List.length_cons] at c1 h ⊢
  obtain ⟨wa, hwa, H0, Q0⟩ : ∃ wa, w.alloc (.cells #[.int .i64 0, .int .i64 0, .int .i64 0, .int .i64 0, .int .i64 0, .int .i64 0, .int .i64 0, .int .i64 0, .int .i64 0] 86) = wa ∧ Hid (Holds wa (bl w.heap.size 86 (zstep 0) * (kst b bg told * (gld bg g * (wds (.slice (some ⟨gl, 0, none⟩) (r.length + 1 + 1 + 1 + 1) cl) (tTear :: a :: w1 :: r0 :: r) * (lay w0 * R)))))) ∧ Hid (Quiet w wa) :=
    ⟨_, rfl, Lib.hid (h.boxB (ty := 86) (cs := zstep 0) rfl), Lib.hid ((Quiet.refl w).alloc _)⟩
  have HR := Lib.hid hr; have HS := Lib.hid hs; have HG := Lib.hid hg
  have HK := Lib.hid (show numsOf [a] = some [k] by simp [numsOf, hk])
  clear h hr hs hg hk
  obtain ⟨qx, hqx⟩ : ∃ qx, w.heap.size = qx := ⟨_, rfl⟩
  rw [hqx] at H0
  have hl2 : ¬ ((r.length : Int) + 1 + 1 + 1 + 1 < 2) := by omega
  have hl3 : ¬ ((r.length : Int) + 1 + 1 < 2) := by omega
  have hc1 : ¬ cl = 1 := by omega
  have hc2 : ¬ cl = 2 := by omega
  have hc3 : ¬ cl - 2 = 1 := by omega
  obtain ⟨T, hT⟩ : ∃ T, strOf tTear = T := ⟨_, rfl⟩
  have hb0 : (T.toList == [116, 101, 97, 114]) = true := by rw [← hT]; exact bytes_yes tTear
  have HT := Lib.hid hT; clear hT
  go_enter Tryz.func24, Tryz.ntmps24
  go_wp2_with (first | (refine wpList_built rfl 86 _ rfl (zstep 2) (by kernel_rfl) ?_) | (refine wpList_store_whole rfl 86 _ _ rfl qx (zstep 2) rfl rfl H0.out.bl rfl (by kernel_rfl) (by simp [Ones, zstep, Value.oneCell']) ?_; intro wb h1' h2' h3'; have HB := Lib.hid (H0.out.grown h2' h1'); have QB := Lib.hid (Q0.out.trans (Quiet.grown h2')); have l0 := wds_cells HB.out.four 0 _ rfl; rw [HT.out] at l0; clear h1' h2' h3'))
  have hv1 : RowAt wb (.slice (some ⟨gl, 1, none⟩) 1 (cl - 1)) 1 (svls [a]) := wds_part HB.out.four rfl (q := 1) (m := 1) (d := cl - 1) (by omega) (by omega)
  refine (numbers_sl _ [a] [k] _ (HB.out.eq (by ac_rfl : _ = lay w0 * (bl qx 86 (zstep 2) * (kst b bg told * (gld bg g * (wds (.slice (some ⟨gl, 0, none⟩) (r.length + 1 + 1 + 1 + 1) cl) (tTear :: a :: w1 :: r0 :: r) * R)))))) hv1 (by simp) (fun s hs => HS.out s (by simp at hs; simp [hs])) HK.out).mono ?_
  rintro e w3 ⟨v3, rfl, q3, h3⟩
  obtain ⟨gk, ck, rfl, e1, e2⟩ := inum_cons h3
  replace h3 : Holds w3 (inum (.slice (some ⟨gk, 0, none⟩) 1 ck) [k] * (lay w0 * (bl qx 86 (zstep 2) * (kst b bg told * (gld bg g * (wds (.slice (some ⟨gl, 0, none⟩) (r.length + 1 + 1 + 1 + 1) cl) (tTear :: a :: w1 :: r0 :: r) * R)))))) := h3
  have HK3 := Lib.hid (h3.drew.eq (by ac_rfl : _ = bl qx 86 (zstep 2) * (inum (.slice (some ⟨gk, 0, none⟩) 1 ck) [k] * (kst b bg told * (gld bg g * (wds (.slice (some ⟨gl, 0, none⟩) (r.length + 1 + 1 + 1 + 1) cl) (tTear :: a :: w1 :: r0 :: r) * (lay w0 * R)))))))
  have QK3 := Lib.hid ((QB.out.trans q3).drew)
  have y0 := HK3.out.bl.cell 0 _ rfl; have f0 := HK3.out.bl.free 0; have y2 := HK3.out.bl.cell 2 _ rfl; have f2 := HK3.out.bl.free 2
  have y2' : w3.cell? ⟨qx, 2, none⟩ = some (.int .i64 0) := y2
  have f2' : w3.frozen? ⟨qx, 2, none⟩ = false := f2
  clear h3 q3 hv1
  go_wp2_with fail
  have HK4 := Lib.hid (HK3.out.setB 0 (.int .i64 3))
  have HK5 := Lib.hid (HK4.out.setB 2 (.int .i64 k))
  refine wp_region_lex (fun W => W.cell? ⟨gk, 0, none⟩ = some (.int .i64 k)) [4, 6] (by kernel_rfl) (by kernel_rfl) (inum_cell HK3.out.two 0 _ rfl) ?_
  repeat (first | (refine LexL.none (by rfl) ?_; (try simp only [Act.put, List.setIfInBounds_toArray, List.set_cons_zero, List.set_cons_succ])) | (refine LexL.still (v := ?_) (by rfl) ?_ ?_; rotate_left; (focus (intro W hW; (try dsimp only at hW); go_simp; (try (with_reducible rfl)); done)); (try simp only [Act.put, List.setIfInBounds_toArray, List.set_cons_zero, List.set_cons_succ])))
  refine LexL.store (w1 := w3.drew.setCell ⟨qx, 0, none⟩ (.int .i64 3)) (by rfl) (by decide) (by go_simp) (inum_cell HK4.out.two 0 _ rfl) ?_
  try simp only [Act.put, List.setIfInBounds_toArray, List.set_cons_zero, List.set_cons_succ]
  repeat (first | (refine LexL.none (by rfl) ?_; (try simp only [Act.put, List.setIfInBounds_toArray, List.set_cons_zero, List.set_cons_succ])) | (refine LexL.still (v := ?_) (by rfl) ?_ ?_; rotate_left; (focus (intro W hW; (try dsimp only at hW); go_simp; (try (with_reducible rfl)); done)); (try simp only [Act.put, List.setIfInBounds_toArray, List.set_cons_zero, List.set_cons_succ])))
  refine LexL.store (w1 := (w3.drew.setCell ⟨qx, 0, none⟩ (.int .i64 3)).setCell ⟨qx, 2, none⟩ (.int .i64 k)) (by rfl) (by decide) (by go_simp) (inum_cell HK5.out.two 0 _ rfl) ?_
  try simp only [Act.put, List.setIfInBounds_toArray, List.set_cons_zero, List.set_cons_succ]
  refine LexL.done ?_
  obtain ⟨wb2, hwb2⟩ : ∃ W, (w3.drew.setCell ⟨qx, 0, none⟩ (.int .i64 3)).setCell ⟨qx, 2, none⟩ (.int .i64 k) = W := ⟨_, rfl⟩
  have hb2 := HK5.out
  have hq2 := ((QK3.out.setCell ⟨qx, 0, none⟩ (.int .i64 3)).setCell ⟨qx, 2, none⟩ (.int .i64 k))
  rw [hwb2] at hb2 hq2 ⊢
  have HB := Lib.hid (show Holds wb2 (bl qx 86 [.int .i64 3, .int .i64 0, .int .i64 k, .int .i64 0, .int .i64 0, .int .i64 0, .int .i64 0, .int .i64 0, .int .i64 0] * (kst b bg told * (gld bg g * (wds (.slice (some ⟨gl, 0, none⟩) (r.length + 1 + 1 + 1 + 1) cl) (tTear :: a :: w1 :: r0 :: r) * (lay w0 * R))))) from hb2.two.right)
  have QB := Lib.hid hq2
  clear hb2 hq2 hwb2 HK3 HK4 HK5 QK3 y0 f0 y2 f2 y2' f2' l0
  go_wp2_with fail
  have hv2 : RowAt wb2 (.slice (some ⟨gl, 3, none⟩) (r.length + 1) (cl - 2 - 1)) (r.length + 1) (svls (r0 :: r)) := wds_tail HB.out.four rfl (q := 3) (m := r.length + 1) (d := cl - 2 - 1) (by omega) (by omega)
  refine (numbers_no _ (r0 :: r) _ (HB.out.eq (by ac_rfl : _ = lay w0 * (bl qx 86 [.int .i64 3, .int .i64 0, .int .i64 k, .int .i64 0, .int .i64 0, .int .i64 0, .int .i64 0, .int .i64 0, .int .i64 0] * (kst b bg told * (gld bg g * (wds (.slice (some ⟨gl, 0, none⟩) (r.length + 1 + 1 + 1 + 1) cl) (tTear :: a :: w1 :: r0 :: r) * R)))))) hv2 (by simp; omega) (fun s hs => HS.out s (List.mem_cons_of_mem _ (List.mem_cons_of_mem _ (List.mem_cons_of_mem _ hs)))) HR.out).mono ?_
  rintro e w5 ⟨rfl, q5, h5⟩
  have H5 := Lib.hid (h5.eq (by ac_rfl : _ = bl qx 86 [.int .i64 3, .int .i64 0, .int .i64 k, .int .i64 0, .int .i64 0, .int .i64 0, .int .i64 0, .int .i64 0, .int .i64 0] * (kst b bg told * (gld bg g * (wds (.slice (some ⟨gl, 0, none⟩) (r.length + 1 + 1 + 1 + 1) cl) (tTear :: a :: w1 :: r0 :: r) * (lay w0 * R)))))); have Q5 := Lib.hid (QB.out.trans q5)
  clear h5 q5 hv2
  go_wp2
  go_ret
  exact ⟨rfl, Q5.out, H5.out.right⟩

set_option maxHeartbeats 8000000 in
theorem node_t1 (b bg : Nat) (told : List UInt8) (g : Gld) (v : Value)  (w : World) {w0 : World} {R : HP}
    (h : Holds w (kst b bg told * (gld bg g * (wds v [tTear] * (lay w0 * R))))) (hg : g.Good) (hs : ∀ s ∈ [tTear], s.length ≤ 100000) (ht : told.length ≤ 300000000) :
    Calls Tryz.prog 24 #[.pointer (some ⟨b, 0, none⟩), v] w fun e w' => e = .returned (.bool false) ∧ Quiet w w' ∧ Holds w' (kst b bg told * (gld bg g * (wds v [tTear] * (lay w0 * R)))) := by
  obtain ⟨gl, cl, rfl, c1, c2⟩ := wds_cons h.three
  simp only [List.length_nil, Nat.zero_add] at c1 h ⊢
  obtain ⟨wa, hwa, H0, Q0⟩ : ∃ wa, w.alloc (.cells #[.int .i64 0, .int .i64 0, .int .i64 0, .int .i64 0, .int .i64 0, .int .i64 0, .int .i64 0, .int .i64 0, .int .i64 0] 86) = wa ∧ Hid (Holds wa (bl w.heap.size 86 (zstep 0) * (kst b bg told * (gld bg g * (wds (.slice (some ⟨gl, 0, none⟩) 1 cl) [tTear] * (lay w0 * R)))))) ∧ Hid (Quiet w wa) :=
    ⟨_, rfl, Lib.hid (h.boxB (ty := 86) (cs := zstep 0) rfl), Lib.hid ((Quiet.refl w).alloc _)⟩
  have HS := Lib.hid hs; have HG := Lib.hid hg
  clear h hs hg
  obtain ⟨qx, hqx⟩ : ∃ qx, w.heap.size = qx := ⟨_, rfl⟩
  rw [hqx] at H0
  obtain ⟨T, hT⟩ : ∃ T, strOf tTear = T := ⟨_, rfl⟩
  have hb0 : (T.toList == [116, 101, 97, 114]) = true := by rw [← hT]; exact bytes_yes tTear
  have HT := Lib.hid hT; clear hT
  go_enter Tryz.func24, Tryz.ntmps24
  go_wp2_with (first | (refine wpList_built rfl 86 _ rfl (zstep 2) (by kernel_rfl) ?_) | (refine wpList_store_whole rfl 86 _ _ rfl qx (zstep 2) rfl rfl H0.out.bl rfl (by kernel_rfl) (by simp [Ones, zstep, Value.oneCell']) ?_; intro wb h1' h2' h3'; have HB := Lib.hid (H0.out.grown h2' h1'); have QB := Lib.hid (Q0.out.trans (Quiet.grown h2')); have l0 := wds_cells HB.out.four 0 _ rfl; rw [HT.out] at l0; clear h1' h2' h3'))
  go_ret
  exact ⟨rfl, QB.out, HB.out.right⟩

set_option maxHeartbeats 8000000 in
theorem node_t2 (b bg : Nat) (told : List UInt8) (g : Gld) (v : Value) (a : List UInt8) (r : List (List UInt8)) (w : World) {w0 : World} {R : HP}
    (h : Holds w (kst b bg told * (gld bg g * (wds v (tTear :: a :: r) * (lay w0 * R))))) (hg : g.Good) (hs : ∀ s ∈ (tTear :: a :: r), s.length ≤ 100000) (hk : numOf a = none) (ht : told.length ≤ 300000000) :
    Calls Tryz.prog 24 #[.pointer (some ⟨b, 0, none⟩), v] w fun e w' => e = .returned (.bool false) ∧ Quiet w w' ∧ Holds w' (kst b bg told * (gld bg g * (wds v (tTear :: a :: r) * (lay w0 * R)))) := by
  obtain ⟨gl, cl, rfl, c1, c2⟩ := wds_cons h.three
  simp only [List.length_cons, List.length_nil, Nat.zero_add] at c1 h ⊢
  obtain ⟨wa, hwa, H0, Q0⟩ : ∃ wa, w.alloc (.cells #[.int .i64 0, .int .i64 0, .int .i64 0, .int .i64 0, .int .i64 0, .int .i64 0, .int .i64 0, .int .i64 0, .int .i64 0] 86) = wa ∧ Hid (Holds wa (bl w.heap.size 86 (zstep 0) * (kst b bg told * (gld bg g * (wds (.slice (some ⟨gl, 0, none⟩) (r.length + 1 + 1) cl) (tTear :: a :: r) * (lay w0 * R)))))) ∧ Hid (Quiet w wa) :=
    ⟨_, rfl, Lib.hid (h.boxB (ty := 86) (cs := zstep 0) rfl), Lib.hid ((Quiet.refl w).alloc _)⟩
  have HS := Lib.hid hs; have HG := Lib.hid hg
  have HK := Lib.hid (show numsOf [a] = none by simp [numsOf, hk])
  clear h hs hg hk
  obtain ⟨qx, hqx⟩ : ∃ qx, w.heap.size = qx := ⟨_, rfl⟩
  rw [hqx] at H0
  obtain ⟨T, hT⟩ : ∃ T, strOf tTear = T := ⟨_, rfl⟩
  have hb0 : (T.toList == [116, 101, 97, 114]) = true := by rw [← hT]; exact bytes_yes tTear
  have HT := Lib.hid hT; clear hT
  go_enter Tryz.func24, Tryz.ntmps24
  go_wp2_with (first | (refine wpList_built rfl 86 _ rfl (zstep 2) (by kernel_rfl) ?_) | (refine wpList_store_whole rfl 86 _ _ rfl qx (zstep 2) rfl rfl H0.out.bl rfl (by kernel_rfl) (by simp [Ones, zstep, Value.oneCell']) ?_; intro wb h1' h2' h3'; have HB := Lib.hid (H0.out.grown h2' h1'); have QB := Lib.hid (Q0.out.trans (Quiet.grown h2')); have l0 := wds_cells HB.out.four 0 _ rfl; rw [HT.out] at l0; clear h1' h2' h3'))
  have hv1 : RowAt wb (.slice (some ⟨gl, 1, none⟩) 1 (cl - 1)) 1 (svls [a]) := wds_part HB.out.four rfl (q := 1) (m := 1) (d := cl - 1) (by omega) (by omega)
  refine (numbers_no _ [a] _ (HB.out.eq (by ac_rfl : _ = lay w0 * (bl qx 86 (zstep 2) * (kst b bg told * (gld bg g * (wds (.slice (some ⟨gl, 0, none⟩) (r.length + 1 + 1) cl) (tTear :: a :: r) * R)))))) hv1 (by simp) (fun s hs => HS.out s (by simp at hs; simp [hs])) HK.out).mono ?_
  rintro e w5 ⟨rfl, q5, h5⟩
  have H5 := Lib.hid (h5.eq (by ac_rfl : _ = bl qx 86 (zstep 2) * (kst b bg told * (gld bg g * (wds (.slice (some ⟨gl, 0, none⟩) (r.length + 1 + 1) cl) (tTear :: a :: r) * (lay w0 * R)))))); have Q5 := Lib.hid (QB.out.trans q5)
  clear h5 q5 hv1
  go_wp2
  go_ret
  exact ⟨rfl, Q5.out, H5.out.right⟩

set_option maxHeartbeats 8000000 in
theorem node_t3 (b bg : Nat) (told : List UInt8) (g : Gld) (v : Value) (a : List UInt8) (k : Int) (w : World) {w0 : World} {R : HP}
    (h : Holds w (kst b bg told * (gld bg g * (wds v [tTear, a] * (lay w0 * R))))) (hg : g.Good) (hs : ∀ s ∈ [tTear, a], s.length ≤ 100000) (hk : numOf a = some k) (ht : told.length ≤ 300000000) :
    Calls Tryz.prog 24 #[.pointer (some ⟨b, 0, none⟩), v] w fun e w' => e = .returned (.bool false) ∧ Quiet w w' ∧ Holds w' (kst b bg told * (gld bg g * (wds v [tTear, a] * (lay w0 * R)))) := by
  obtain ⟨gl, cl, rfl, c1, c2⟩ := wds_cons h.three
  simp only [List.length_cons, List.length_nil, Nat.zero_add] at c1 h ⊢
  obtain ⟨wa, hwa, H0, Q0⟩ : ∃ wa, w.alloc (.cells #[.int .i64 0, .int .i64 0, .int .i64 0, .int .i64 0, .int .i64 0, .int .i64 0, .int .i64 0, .int .i64 0, .int .i64 0] 86) = wa ∧ Hid (Holds wa (bl w.heap.size 86 (zstep 0) * (kst b bg told * (gld bg g * (wds (.slice (some ⟨gl, 0, none⟩) 2 cl) [tTear, a] * (lay w0 * R)))))) ∧ Hid (Quiet w wa) :=
    ⟨_, rfl, Lib.hid (h.boxB (ty := 86) (cs := zstep 0) rfl), Lib.hid ((Quiet.refl w).alloc _)⟩
  have HS := Lib.hid hs; have HG := Lib.hid hg
  have HK := Lib.hid (show numsOf [a] = some [k] by simp [numsOf, hk])
  clear h hs hg hk
  obtain ⟨qx, hqx⟩ : ∃ qx, w.heap.size = qx := ⟨_, rfl⟩
  rw [hqx] at H0
  obtain ⟨T, hT⟩ : ∃ T, strOf tTear = T := ⟨_, rfl⟩
  have hb0 : (T.toList == [116, 101, 97, 114]) = true := by rw [← hT]; exact bytes_yes tTear
  have HT := Lib.hid hT; clear hT
  go_enter Tryz.func24, Tryz.ntmps24
  go_wp2_with (first | (refine wpList_built rfl 86 _ rfl (zstep 2) (by kernel_rfl) ?_) | (refine wpList_store_whole rfl 86 _ _ rfl qx (zstep 2) rfl rfl H0.out.bl rfl (by kernel_rfl) (by simp [Ones, zstep, Value.oneCell']) ?_; intro wb h1' h2' h3'; have HB := Lib.hid (H0.out.grown h2' h1'); have QB := Lib.hid (Q0.out.trans (Quiet.grown h2')); have l0 := wds_cells HB.out.four 0 _ rfl; rw [HT.out] at l0; clear h1' h2' h3'))
  have hv1 : RowAt wb (.slice (some ⟨gl, 1, none⟩) 1 (cl - 1)) 1 (svls [a]) := wds_part HB.out.four rfl (q := 1) (m := 1) (d := cl - 1) (by omega) (by omega)
  refine (numbers_sl _ [a] [k] _ (HB.out.eq (by ac_rfl : _ = lay w0 * (bl qx 86 (zstep 2) * (kst b bg told * (gld bg g * (wds (.slice (some ⟨gl, 0, none⟩) 2 cl) [tTear, a] * R)))))) hv1 (by simp) (fun s hs => HS.out s (by simp at hs; simp [hs])) HK.out).mono ?_
  rintro e w3 ⟨v3, rfl, q3, h3⟩
  obtain ⟨gk, ck, rfl, e1, e2⟩ := inum_cons h3
  replace h3 : Holds w3 (inum (.slice (some ⟨gk, 0, none⟩) 1 ck) [k] * (lay w0 * (bl qx 86 (zstep 2) * (kst b bg told * (gld bg g * (wds (.slice (some ⟨gl, 0, none⟩) 2 cl) [tTear, a] * R)))))) := h3
  have HK3 := Lib.hid (h3.drew.eq (by ac_rfl : _ = bl qx 86 (zstep 2) * (inum (.slice (some ⟨gk, 0, none⟩) 1 ck) [k] * (kst b bg told * (gld bg g * (wds (.slice (some ⟨gl, 0, none⟩) 2 cl) [tTear, a] * (lay w0 * R)))))))
  have QK3 := Lib.hid ((QB.out.trans q3).drew)
  have y0 := HK3.out.bl.cell 0 _ rfl; have f0 := HK3.out.bl.free 0; have y2 := HK3.out.bl.cell 2 _ rfl; have f2 := HK3.out.bl.free 2
  have y2' : w3.cell? ⟨qx, 2, none⟩ = some (.int .i64 0) := y2
  have f2' : w3.frozen? ⟨qx, 2, none⟩ = false := f2
  clear h3 q3 hv1
  go_wp2_with fail
  have HK4 := Lib.hid (HK3.out.setB 0 (.int .i64 3))
  have HK5 := Lib.hid (HK4.out.setB 2 (.int .i64 k))
  refine wp_region_lex (fun W => W.cell? ⟨gk, 0, none⟩ = some (.int .i64 k)) [4, 6] (by kernel_rfl) (by kernel_rfl) (inum_cell HK3.out.two 0 _ rfl) ?_
  repeat (first | (refine LexL.none (by rfl) ?_; (try simp only [Act.put, List.setIfInBounds_toArray, List.set_cons_zero, List.set_cons_succ])) | (refine LexL.still (v := ?_) (by rfl) ?_ ?_; rotate_left; (focus (intro W hW; (try dsimp only at hW); go_simp; (try (with_reducible rfl)); done)); (try simp only [Act.put, List.setIfInBounds_toArray, List.set_cons_zero, List.set_cons_succ])))
  refine LexL.store (w1 := w3.drew.setCell ⟨qx, 0, none⟩ (.int .i64 3)) (by rfl) (by decide) (by go_simp) (inum_cell HK4.out.two 0 _ rfl) ?_
  try simp only [Act.put, List.setIfInBounds_toArray, List.set_cons_zero, List.set_cons_succ]
  repeat (first | (refine LexL.none (by rfl) ?_; (try simp only [Act.put, List.setIfInBounds_toArray, List.set_cons_zero, List.set_cons_succ])) | (refine LexL.still (v := ?_) (by rfl) ?_ ?_; rotate_left; (focus (intro W hW; (try dsimp only at hW); go_simp; (try (with_reducible rfl)); done)); (try simp only [Act.put, List.setIfInBounds_toArray, List.set_cons_zero, List.set_cons_succ])))
  refine LexL.store (w1 := (w3.drew.setCell ⟨qx, 0, none⟩ (.int .i64 3)).setCell ⟨qx, 2, none⟩ (.int .i64 k)) (by rfl) (by decide) (by go_simp) (inum_cell HK5.out.two 0 _ rfl) ?_
  try simp only [Act.put, List.setIfInBounds_toArray, List.set_cons_zero, List.set_cons_succ]
  refine LexL.done ?_
  obtain ⟨wb2, hwb2⟩ : ∃ W, (w3.drew.setCell ⟨qx, 0, none⟩ (.int .i64 3)).setCell ⟨qx, 2, none⟩ (.int .i64 k) = W := ⟨_, rfl⟩
  have hb2 := HK5.out
  have hq2 := ((QK3.out.setCell ⟨qx, 0, none⟩ (.int .i64 3)).setCell ⟨qx, 2, none⟩ (.int .i64 k))
  rw [hwb2] at hb2 hq2 ⊢
  have HB := Lib.hid (show Holds wb2 (bl qx 86 [.int .i64 3, .int .i64 0, .int .i64 k, .int .i64 0, .int .i64 0, .int .i64 0, .int .i64 0, .int .i64 0, .int .i64 0] * (kst b bg told * (gld bg g * (wds (.slice (some ⟨gl, 0, none⟩) 2 cl) [tTear, a] * (lay w0 * R))))) from hb2.two.right)
  have QB := Lib.hid hq2
  clear hb2 hq2 hwb2 HK3 HK4 HK5 QK3 y0 f0 y2 f2 y2' f2' l0
  by_cases hcl : cl = 2
  · subst hcl
    go_wp2
    go_ret
    exact ⟨rfl, QB.out, HB.out.right⟩
  · go_wp2
    go_ret
    exact ⟨rfl, QB.out, HB.out.right⟩

set_option maxHeartbeats 8000000 in
theorem node_t4 (b bg : Nat) (told : List UInt8) (g : Gld) (v : Value) (a w1 : List UInt8) (k : Int) (w : World) {w0 : World} {R : HP}
    (h : Holds w (kst b bg told * (gld bg g * (wds v [tTear, a, w1] * (lay w0 * R))))) (hg : g.Good) (hs : ∀ s ∈ [tTear, a, w1], s.length ≤ 100000) (hk : numOf a = some k) (ht : told.length ≤ 300000000) :
    Calls Tryz.prog 24 #[.pointer (some ⟨b, 0, none⟩), v] w fun e w' => e = .returned (.bool false) ∧ Quiet w w' ∧ Holds w' (kst b bg told * (gld bg g * (wds v [tTear, a, w1] * (lay w0 * R)))) := by
  obtain ⟨gl, cl, rfl, c1, c2⟩ := wds_cons h.three
  simp only [List.length_cons, List.length_nil, Nat.zero_add] at c1 h ⊢
  obtain ⟨wa, hwa, H0, Q0⟩ : ∃ wa, w.alloc (.cells #[.int .i64 0, .int .i64 0, .int .i64 0, .int .i64 0, .int .i64 0, .int .i64 0, .int .i64 0, .int .i64 0, .int .i64 0] 86) = wa ∧ Hid (Holds wa (bl w.heap.size 86 (zstep 0) * (kst b bg told * (gld bg g * (wds (.slice (some ⟨gl, 0, none⟩) 3 cl) [tTear, a, w1] * (lay w0 * R)))))) ∧ Hid (Quiet w wa) :=
    ⟨_, rfl, Lib.hid (h.boxB (ty := 86) (cs := zstep 0) rfl), Lib.hid ((Quiet.refl w).alloc _)⟩
  have HS := Lib.hid hs; have HG := Lib.hid hg
  have HK := Lib.hid (show numsOf [a] = some [k] by simp [numsOf, hk])
  clear h hs hg hk
  obtain ⟨qx, hqx⟩ : ∃ qx, w.heap.size = qx := ⟨_, rfl⟩
  rw [hqx] at H0
  obtain ⟨T, hT⟩ : ∃ T, strOf tTear = T := ⟨_, rfl⟩
  have hb0 : (T.toList == [116, 101, 97, 114]) = true := by rw [← hT]; exact bytes_yes tTear
  have HT := Lib.hid hT; clear hT
  go_enter Tryz.func24, Tryz.ntmps24
  go_wp2_with (first | (refine wpList_built rfl 86 _ rfl (zstep 2) (by kernel_rfl) ?_) | (refine wpList_store_whole rfl 86 _ _ rfl qx (zstep 2) rfl rfl H0.out.bl rfl (by kernel_rfl) (by simp [Ones, zstep, Value.oneCell']) ?_; intro wb h1' h2' h3'; have HB := Lib.hid (H0.out.grown h2' h1'); have QB := Lib.hid (Q0.out.trans (Quiet.grown h2')); have l0 := wds_cells HB.out.four 0 _ rfl; rw [HT.out] at l0; clear h1' h2' h3'))
  have hv1 : RowAt wb (.slice (some ⟨gl, 1, none⟩) 1 (cl - 1)) 1 (svls [a]) := wds_part HB.out.four rfl (q := 1) (m := 1) (d := cl - 1) (by omega) (by omega)
  refine (numbers_sl _ [a] [k] _ (HB.out.eq (by ac_rfl : _ = lay w0 * (bl qx 86 (zstep 2) * (kst b bg told * (gld bg g * (wds (.slice (some ⟨gl, 0, none⟩) 3 cl) [tTear, a, w1] * R)))))) hv1 (by simp) (fun s hs => HS.out s (by simp at hs; simp [hs])) HK.out).mono ?_
  rintro e w3 ⟨v3, rfl, q3, h3⟩
  obtain ⟨gk, ck, rfl, e1, e2⟩ := inum_cons h3
  replace h3 : Holds w3 (inum (.slice (some ⟨gk, 0, none⟩) 1 ck) [k] * (lay w0 * (bl qx 86 (zstep 2) * (kst b bg told * (gld bg g * (wds (.slice (some ⟨gl, 0, none⟩) 3 cl) [tTear, a, w1] * R)))))) := h3
  have HK3 := Lib.hid (h3.drew.eq (by ac_rfl : _ = bl qx 86 (zstep 2) * (inum (.slice (some ⟨gk, 0, none⟩) 1 ck) [k] * (kst b bg told * (gld bg g * (wds (.slice (some ⟨gl, 0, none⟩) 3 cl) [tTear, a, w1] * (lay w0 * R)))))))
  have QK3 := Lib.hid ((QB.out.trans q3).drew)
  have y0 := HK3.out.bl.cell 0 _ rfl; have f0 := HK3.out.bl.free 0; have y2 := HK3.out.bl.cell 2 _ rfl; have f2 := HK3.out.bl.free 2
  have y2' : w3.cell? ⟨qx, 2, none⟩ = some (.int .i64 0) := y2
  have f2' : w3.frozen? ⟨qx, 2, none⟩ = false := f2
  clear h3 q3 hv1
  go_wp2_with fail
  have HK4 := Lib.hid (HK3.out.setB 0 (.int .i64 3))
  have HK5 := Lib.hid (HK4.out.setB 2 (.int .i64 k))
  refine wp_region_lex (fun W => W.cell? ⟨gk, 0, none⟩ = some (.int .i64 k)) [4, 6] (by kernel_rfl) (by kernel_rfl) (inum_cell HK3.out.two 0 _ rfl) ?_
  repeat (first | (refine LexL.none (by rfl) ?_; (try simp only [Act.put, List.setIfInBounds_toArray, List.set_cons_zero, List.set_cons_succ])) | (refine LexL.still (v := ?_) (by rfl) ?_ ?_; rotate_left; (focus (intro W hW; (try dsimp only at hW); go_simp; (try (with_reducible rfl)); done)); (try simp only [Act.put, List.setIfInBounds_toArray, List.set_cons_zero, List.set_cons_succ])))
  refine LexL.store (w1 := w3.drew.setCell ⟨qx, 0, none⟩ (.int .i64 3)) (by rfl) (by decide) (by go_simp) (inum_cell HK4.out.two 0 _ rfl) ?_
  try simp only [Act.put, List.setIfInBounds_toArray, List.set_cons_zero, List.set_cons_succ]
  repeat (first | (refine LexL.none (by rfl) ?_; (try simp only [Act.put, List.setIfInBounds_toArray, List.set_cons_zero, List.set_cons_succ])) | (refine LexL.still (v := ?_) (by rfl) ?_ ?_; rotate_left; (focus (intro W hW; (try dsimp only at hW); go_simp; (try (with_reducible rfl)); done)); (try simp only [Act.put, List.setIfInBounds_toArray, List.set_cons_zero, List.set_cons_succ])))
  refine LexL.store (w1 := (w3.drew.setCell ⟨qx, 0, none⟩ (.int .i64 3)).setCell ⟨qx, 2, none⟩ (.int .i64 k)) (by rfl) (by decide) (by go_simp) (inum_cell HK5.out.two 0 _ rfl) ?_
  try simp only [Act.put, List.setIfInBounds_toArray, List.set_cons_zero, List.set_cons_succ]
  refine LexL.done ?_
  obtain ⟨wb2, hwb2⟩ : ∃ W, (w3.drew.setCell ⟨qx, 0, none⟩ (.int .i64 3)).setCell ⟨qx, 2, none⟩ (.int .i64 k) = W := ⟨_, rfl⟩
  have hb2 := HK5.out
  have hq2 := ((QK3.out.setCell ⟨qx, 0, none⟩ (.int .i64 3)).setCell ⟨qx, 2, none⟩ (.int .i64 k))
  rw [hwb2] at hb2 hq2 ⊢
  have HB := Lib.hid (show Holds wb2 (bl qx 86 [.int .i64 3, .int .i64 0, .int .i64 k, .int .i64 0, .int .i64 0, .int .i64 0, .int .i64 0, .int .i64 0, .int .i64 0] * (kst b bg told * (gld bg g * (wds (.slice (some ⟨gl, 0, none⟩) 3 cl) [tTear, a, w1] * (lay w0 * R))))) from hb2.two.right)
  have QB := Lib.hid hq2
  clear hb2 hq2 hwb2 HK3 HK4 HK5 QK3 y0 f0 y2 f2 y2' f2' l0
  by_cases hcl : cl = 2
  · subst hcl
    go_wp2
    go_ret
    exact ⟨rfl, QB.out, HB.out.right⟩
  · go_wp2
    go_ret
    exact ⟨rfl, QB.out, HB.out.right⟩

theorem node_yes (b bg : Nat) (told : List UInt8) (g : Gld) (v : Value) (L : List (List UInt8)) (x : Stp) (t : Bool) (w : World) {w0 : World} {R : HP}
    (h : Holds w (kst b bg told * (gld bg g * (wds v L * (lay w0 * R))))) (hg : g.Good) (hl : L.length ≤ 10000) (hs : ∀ s ∈ L, s.length ≤ 100000) (hq : nodeReq L = some (x, t)) (ht : told.length ≤ 300000000) :
    Calls Tryz.prog 24 #[.pointer (some ⟨b, 0, none⟩), v] w fun e w' => e = .returned (.bool true) ∧ Quiet w w' ∧ Holds w' (kst b bg (told ++ line (ansTxt (g.step x).2 t)) * (gld bg (g.step x).1 * (wds v L * (lay w0 * R)))) := by
  unfold nodeReq at hq
  split at hq
  · cases hq
  · rename_i w1 r
    split at hq
    · rename_i e
      subst e
      split at hq
      · cases hq
      · rename_i a q
        split at hq
        · cases hq
        · rename_i k hk
          split at hq
          · cases hq
          · rename_i w1 u
            split at hq
            · rename_i n m hm
              cases ho : orderOf w1 m with
              | none => rw [ho] at hq; cases hq
              | some o =>
                rw [ho] at hq
                simp only [Option.map_some, Option.some.injEq, Prod.mk.injEq] at hq
                obtain ⟨rfl, rfl⟩ := hq
                exact node_tear b bg told g v a w1 u k n m o w h hg (by simp at hl; omega) hs hk hm ho ht
            · cases hq
    · rename_i e
      split at hq
      · rename_i n m hm
        cases ho : orderOf w1 m with
        | none => rw [ho] at hq; cases hq
        | some o =>
          rw [ho] at hq
          simp only [Option.map_some, Option.some.injEq, Prod.mk.injEq] at hq
          obtain ⟨rfl, rfl⟩ := hq
          exact node_order b bg told g v w1 r n m o w h hg (by simp at hl; omega) hs e hm ho ht
      · cases hq
theorem node_no (b bg : Nat) (told : List UInt8) (g : Gld) (v : Value) (L : List (List UInt8)) (w : World) {w0 : World} {R : HP}
    (h : Holds w (kst b bg told * (gld bg g * (wds v L * (lay w0 * R))))) (hg : g.Good) (h0 : L ≠ []) (hl : L.length ≤ 10000) (hs : ∀ s ∈ L, s.length ≤ 100000) (hne : ∀ s ∈ L, s ≠ []) (hq : nodeReq L = none) (ht : told.length ≤ 300000000) :
    Calls Tryz.prog 24 #[.pointer (some ⟨b, 0, none⟩), v] w fun e w' => e = .returned (.bool false) ∧ Quiet w w' ∧ Holds w' (kst b bg told * (gld bg g * (wds v L * (lay w0 * R)))) := by
  have ofnil : ∀ {r : List (List UInt8)}, numsOf r = some [] → r = [] := fun h => List.length_eq_zero_iff.1 (by rw [← numsOf_len h]; rfl)
  unfold nodeReq at hq
  split at hq
  · exact absurd rfl h0
  · rename_i w1 r
    split at hq
    · rename_i e
      subst e
      split at hq
      · exact node_t1 b bg told g v w h hg hs ht
      · rename_i a q
        split at hq
        · rename_i hk
          exact node_t2 b bg told g v a q w h hg hs hk ht
        · rename_i k hk
          split at hq
          · exact node_t3 b bg told g v a k w h hg hs hk ht
          · rename_i w1 u
            split at hq
            · rename_i n m hm
              cases ho : orderOf w1 m with
              | none => exact node_t6 b bg told g v a w1 u k n m w h hg (by simp at hl; omega) hs hk hm (hne _ (by simp)) ho ht
              | some o => rw [ho] at hq; cases hq
            · rename_i hm
              cases hu : numsOf u with
              | none =>
                cases u with
                | nil => cases hu
                | cons r0 r => exact node_t5 b bg told g v a w1 r0 r k w h hg (by simp at hl; omega) hs hk hu ht
              | some l =>
                cases l with
                | nil => obtain rfl := ofnil hu; exact node_t4 b bg told g v a w1 k w h hg hs hk ht
                | cons n m => exact absurd hu (hm n m)
    · rename_i e
      split at hq
      · rename_i n m hm
        cases ho : orderOf w1 m with
        | none => exact node_n3 b bg told g v w1 r n m w h hg (by simp at hl; omega) hs e hm (hne _ (by simp)) ho ht
        | some o => rw [ho] at hq; cases hq
      · rename_i hm
        cases hu : numsOf r with
        | none =>
          cases r with
          | nil => cases hu
          | cons r0 r => exact node_n2 b bg told g v w1 r0 r w h hg (by simp at hl; omega) hs e hu ht
        | some l =>
          cases l with
          | nil => obtain rfl := ofnil hu; exact node_n1 b bg told g v w1 w h hg hs e ht
          | cons n m => exact absurd hu (hm n m)

end Go.Proofs.YtfihmpkkpgmdhaaGreatDoor
