/-
  DiskDoes, walked: every Epoch, Bytes, Raise, Append and Cut is as the document says.
-/
import Derived.Test.YtfihmpkkpgmdhaaDiskLaw
import Derived.Test.YtfihmpkkpgmdhaaLex
namespace Go.Proofs.Ytfihmpkkpgmdhaa
set_option linter.unusedSimpArgs false
set_option linter.unusedVariables false
open Go.RowKit

/-- A disk and a plate of the call's own. -/
structure DP2 (w0 w : World) (b p : Nat) (d1 d2 : Dsk) (F1 F2 : Nat → Prop) : Prop where
  ok1 : d1.Ok
  ok2 : d2.Ok
  D : DiskAt w b d1 F1
  P : PlateAt w p 30 [] d2 F2
  sep : Sep F1 F2
  ge1 : ∀ k, F1 k → w0.heap.size ≤ k
  ge2 : ∀ k, F2 k → w0.heap.size ≤ k
  below : Below w0.heap.size w0 w
theorem DP2.new {w0 w w' : World} {b p : Nat} {d1 d2 : Dsk} {F1 F2 : Nat → Prop} (h : DP2 w0 w b p d1 d2 F1 F2) (hb : Below w.heap.size w w') : DP2 w0 w' b p d1 d2 F1 F2 :=
  ⟨h.ok1, h.ok2, h.D.upd (Upd.of_below hb (fun _ => False)) (fun _ _ h => h), h.P.upd (Upd.of_below hb (fun _ => False)) (fun _ _ h => h), h.sep, h.ge1, h.ge2, h.below.trans (hb.mono h.below.size)⟩
theorem DP2.alloc {w0 w : World} {b p : Nat} {d1 d2 : Dsk} {F1 F2 : Nat → Prop} (h : DP2 w0 w b p d1 d2 F1 F2) (o : Obj) : DP2 w0 (w.alloc o) b p d1 d2 F1 F2 :=
  h.new ((Below.refl _ _).alloc (Nat.le_refl _) o)
theorem DP2.drewN {w0 w : World} {b p : Nat} {d1 d2 : Dsk} {F1 F2 : Nat → Prop} (h : DP2 w0 w b p d1 d2 F1 F2) (n : Nat) : DP2 w0 (w.drewN n) b p d1 d2 F1 F2 :=
  h.new (below_drewN (Below.refl _ _) n)
theorem DP2.drew {w0 w : World} {b p : Nat} {d1 d2 : Dsk} {F1 F2 : Nat → Prop} (h : DP2 w0 w b p d1 d2 F1 F2) : DP2 w0 w.drew b p d1 d2 F1 F2 :=
  h.new (Below.drew (Below.refl _ _))
theorem DP2.stepD {w0 w w' : World} {b p : Nat} {d1 d2 d' : Dsk} {F1 F2 : Nat → Prop} {v : Value} {e : Ending} (h : DP2 w0 w b p d1 d2 F1 F2) (hp : DiskPost w b F1 d' v e w') (hok : d'.Ok) :
    e = .returned v ∧ ∃ F, DP2 w0 w' b p d' d2 F F2 ∧ Upd F1 w w' := by
  obtain ⟨F, he, h1, h2, h3⟩ := hp
  exact ⟨he, F, ⟨hok, h.ok2, h1, h.P.upd h2 h.sep.symm, h.sep.step h3 h.P.inW, h3.ge h.below.size h.ge1, h.ge2, h.below.trans (h2.below h.below.size h.ge1)⟩, h2⟩
theorem DP2.stepP {w0 w w' : World} {b p : Nat} {d1 d2 d' : Dsk} {F1 F2 : Nat → Prop} {v : Value} {e : Ending} (h : DP2 w0 w b p d1 d2 F1 F2) (hp : PlatePost w p 30 [] F2 d' v e w') (hok : d'.Ok) :
    e = .returned v ∧ ∃ F, DP2 w0 w' b p d1 d' F1 F ∧ Upd F2 w w' := by
  obtain ⟨F, he, h1, h2, h3⟩ := hp
  exact ⟨he, F, ⟨h.ok1, hok, h.D.upd h2 h.sep, h1, (h.sep.symm.step h3 h.D.inW).symm, h.ge1, h3.ge h.below.size h.ge2, h.below.trans (h2.below h.below.size h.ge2)⟩, h2⟩
/-- The local step, that neither of them is. -/
theorem DP2.far1 {w0 w : World} {b p : Nat} {d1 d2 : Dsk} {F1 F2 : Nat → Prop} (h : DP2 w0 w b p d1 d2 F1 F2) : ¬ F1 w.heap.size := fun hf => Nat.lt_irrefl _ (h.D.inW _ hf)

theorem DP2.far2 {w0 w : World} {b p : Nat} {d1 d2 : Dsk} {F1 F2 : Nat → Prop} (h : DP2 w0 w b p d1 d2 F1 F2) : ¬ F2 w.heap.size := fun hf => Nat.lt_irrefl _ (h.P.inW _ hf)
/-- What the round's last test asks: the disk and the plate tell the same. -/
def Same2 (w0 w : World) (b p : Nat) (d : Dsk) (pv : Value) (F1 F2 : Nat → Prop) : Prop :=
  DP2 w0 w b p d d F1 F2 ∧ p < w.heap.size ∧ w.cell? ⟨p, 0, none⟩ = some (.int .i64 d.ep) ∧ w.cell? ⟨p, 1, none⟩ = some pv ∧ BytesAt w pv d.b
theorem Same2.of {w0 w : World} {b p : Nat} {d : Dsk} {F1 F2 : Nat → Prop} (h : DP2 w0 w b p d d F1 F2) : ∃ pv, Same2 w0 w b p d pv F1 F2 := by
  obtain ⟨_, pv, hpb, hpv, _⟩ := h.P
  exact ⟨pv, h, hpb.lt, hpb.cell 0 _ rfl, hpb.cell 1 _ rfl, hpv.bytes⟩

set_option maxRecDepth 100000 in
set_option maxHeartbeats 8000000 in
theorem diskDoes_any (v : Value) (L : List DStep) (w : World) (h : StepsAt w v L) :
    Calls Try.prog 3 #[v] w fun e w' => e = .returned (.bool true) ∧ Below w.heap.size w w' := by
  have HL := Lib.hid h
  obtain ⟨a, c, rfl, hlen⟩ := h.shape
  clear h
  go_enter Try.func3, Try.ntmps3
  go_wp2_with fail
  refine (diskBegun_any w).mono ?_
  rintro e w1 ⟨rfl, hb1⟩
  have HB1 := Lib.hid hb1; clear hb1
  go_wp2_with fail
  refine (greatDisk_any _ L w1 (HL.out.keep HB1.out)).mono ?_
  rintro e w2 ⟨g, rfl, rfl, hg⟩
  have HG := Lib.hid hg; clear hg
  cases g with
  | true =>
    go_wp2
    go_ret
    exact ⟨rfl, HB1.out⟩
  | false =>
    go_wp2_with fail
    refine (dnew_any w1).mono ?_
    rintro e w3 ⟨b, F1, rfl, hb3, hd, hge⟩
    have hs : DP2 w (w3.alloc (.cells #[.int .i64 0, .slice none 0 0] 30)) b w3.heap.size Dsk.zero Dsk.zero F1 (fun k => k = w3.heap.size ∨ Value.ownBlock (.slice none 0 0) = some k) := by
      have hin := hd.inW
      refine ⟨Dsk.zero_ok, Dsk.zero_ok, hd.upd (Upd.alloc (F := fun _ => False) (Upd.refl _ _) _) (fun _ _ h => h), ⟨by decide, _, BlockAt.new w3 30 _, OwnB.nil _, rfl⟩, ?_, ?_, ?_, ?_⟩
      · rintro k h1 (rfl | h2)
        · exact Nat.lt_irrefl _ (hin _ h1)
        · simp [Value.ownBlock] at h2
      · intro k hk; exact Nat.le_trans HB1.out.size (hge k hk)
      · rintro k (rfl | h2)
        · exact Nat.le_trans HB1.out.size hb3.size
        · simp [Value.ownBlock] at h2
      · exact (HB1.out.trans (hb3.mono HB1.out.size)).alloc (Nat.le_trans HB1.out.size hb3.size) _
    generalize hq : w3.heap.size = q at *
    have HQ := Lib.hid hq
    have HS := Lib.hid hs; clear hs hb3 hd hge hq
    go_wp2
    rw [HQ.out]
    go_loopw [5] (fun i wr => ∃ (k : Nat) (d : Dsk) (F1 F2 : Nat → Prop), k ≤ L.length ∧ i = .int .i64 k ∧ DP2 w wr b q d d F1 F2) (fun i _ => L.length - (intOf i).toNat)
    case atStart => exact ⟨0, _, _, _, by omega, rfl, HS.out⟩
    case round =>
      obtain ⟨k, d, F1, F2, hk, rfl, hst⟩ := hrel
      have HST := Lib.hid hst; clear hst
      by_cases hlt : k < L.length
      · obtain ⟨x, hx⟩ : ∃ x, L[k]? = some x := ⟨_, List.getElem?_eq_getElem hlt⟩
        obtain ⟨g, off, rfl, hby, i1, i2, i3, c0, c1, c2, c3⟩ := (HL.out.keep HST.out.below).get hx
        have hxl := (HG.out trivial).2 x (List.mem_of_getElem? hx)
        have hlt2 := World.block_lt_of_cell? _ _ c0
        obtain ⟨va, vc, hv, _⟩ := hby
        rw [hv] at c3
        obtain ⟨_, pv, hpb, _⟩ := HST.out.P
        have p0 := hpb.cell 0 _ rfl
        have p1 := hpb.cell 1 _ rfl
        have plt := hpb.lt
        have HX := Lib.hid hx; have HV := Lib.hid hv
        clear hx hv hpb i1 i2 i3
        have far1 : ¬ F1 wr.heap.size := HST.out.far1
        have far2 : ¬ F2 wr.heap.size := HST.out.far2
        have FAR1 := Lib.hid far1; have FAR2 := Lib.hid far2; clear far1 far2
        by_cases h0 : x.op = 0
        · have e0 : (x.op == 0) = true := by simpa using h0
          clear h0
          go_wp2
          go_region
          go_wp2_with fail
          have hst := (HST.out.alloc (.cells #[.int .i64 x.op, .int .i64 x.ep, .int .i64 x.n, .slice va x.b.length vc] 32)).drew
          refine (raise_any b d F1 _ hst.D hst.ok1).mono ?_
          intro e w4 hp
          obtain ⟨rfl, F3, hs4, hu4⟩ := hst.stepD hp (Dsk.raise_ok hst.ok1)
          have HS4 := Lib.hid hs4
          clear hst hp hs4 hu4 p0 p1
          go_wp2_with fail
          refine (praise_any q 30 [] d F2 _ HS4.out.P HS4.out.ok2).mono ?_
          intro e w5 hp
          obtain ⟨rfl, F4, hs5, hu5⟩ := HS4.out.stepP hp (Dsk.raise_ok HS4.out.ok2)
          have HS5 := Lib.hid hs5
          clear hp hs5 hu5
          generalize d.raise.1 = d' at *
          generalize d.raise.2.1 = r1 at *
          generalize d.raise.2.2 = r2 at *
          obtain ⟨F5, F6, HS6⟩ : ∃ F5 F6, Hid (DP2 w w5 b q d' d' F5 F6) := ⟨_, _, HS5⟩
          clear HS5
          obtain ⟨pv, hs2⟩ := Same2.of HS6.out
          obtain ⟨_, plt, p0, p1, hpv⟩ := hs2
          have HPV := Lib.hid hpv
          clear hpv
          go_wp2
          have hz0 := run_string_bytes (HPV.out.keep (Below.drew (Below.refl _ _)))
          refine wp_region_lex (fun W => W.cell? ⟨q, 0, none⟩ = some (.int .i64 d'.ep) ∧ W.cell? ⟨q, 1, none⟩ = some pv ∧ (convert 28 9 pv).run Try.prog W = .ok (.string (strOf d'.b)) W) [1, 7, 9, 10] (by kernel_rfl) (by kernel_rfl) ⟨p0, p1, hz0⟩ ?_
          repeat (first | (refine LexL.none (by rfl) ?_; (try simp only [Act.put, List.setIfInBounds_toArray, List.set_cons_zero, List.set_cons_succ])) | (refine LexL.still (v := ?_) (by rfl) ?_ ?_; rotate_left; (focus (intro W hW; (try dsimp only at hW); go_simp; (try (with_reducible rfl)); done)); (try simp only [Act.put, List.setIfInBounds_toArray, List.set_cons_zero, List.set_cons_succ])))
          refine LexL.call (f := 22) (args := #[.pointer (some ⟨b, 0, none⟩)]) (w1 := w5.drew) (by rfl) (by decide) (by go_simp) ?_
          refine (epoch_any b d' F5 _ HS6.out.drew.D).mono ?_
          rintro e w6 ⟨rfl, rfl⟩
          refine ⟨_, rfl, ⟨p0, p1, hz0⟩, ?_⟩
          try simp only [Act.put, List.setIfInBounds_toArray, List.set_cons_zero, List.set_cons_succ]
          repeat (first | (refine LexL.none (by rfl) ?_; (try simp only [Act.put, List.setIfInBounds_toArray, List.set_cons_zero, List.set_cons_succ])) | (refine LexL.still (v := ?_) (by rfl) ?_ ?_; rotate_left; (focus (intro W hW; (try dsimp only at hW); go_simp; (try (with_reducible rfl)); done)); (try simp only [Act.put, List.setIfInBounds_toArray, List.set_cons_zero, List.set_cons_succ])))
          refine LexL.call (f := 23) (args := #[.pointer (some ⟨b, 0, none⟩)]) (w1 := w5.drew) (by rfl) (by decide) (by go_simp) ?_
          refine (bytes_any b d' F5 _ HS6.out.drew.D HS6.out.ok1).mono ?_
          rintro e w6 ⟨v6, rfl, h6, hb6, _⟩
          have hs6 := run_string_bytes h6.bytes
          have hs7 := run_string_bytes ((HPV.out.keep (Below.drew (Below.refl _ _))).keep hb6)
          refine ⟨_, rfl, ⟨(hb6.cell plt).trans p0, (hb6.cell plt).trans p1, hs7⟩, ?_⟩
          try simp only [Act.put, List.setIfInBounds_toArray, List.set_cons_zero, List.set_cons_succ]
          refine LexL.value (v := .string (strOf d'.b)) (w1 := w6) (by rfl) (by decide) (by go_simp) ⟨(hb6.cell plt).trans p0, (hb6.cell plt).trans p1, hs7⟩ ?_
          try simp only [Act.put, List.setIfInBounds_toArray, List.set_cons_zero, List.set_cons_succ]
          repeat (first | (refine LexL.none (by rfl) ?_; (try simp only [Act.put, List.setIfInBounds_toArray, List.set_cons_zero, List.set_cons_succ])) | (refine LexL.still (v := ?_) (by rfl) ?_ ?_; rotate_left; (focus (intro W hW; (try dsimp only at hW); go_simp; (try (with_reducible rfl)); done)); (try simp only [Act.put, List.setIfInBounds_toArray, List.set_cons_zero, List.set_cons_succ])))
          refine LexL.done ?_
          have HS7 := Lib.hid (HS6.out.drew.new hb6)
          clear h6 hb6 hs6 hs7 p0 p1 hz0
          go_wp2
          go_roundw
          case rel => exact ⟨k + 1, _, _, _, by omega, by go_num, HS7.out⟩
          case measure => simp [intOf]; omega
        · have e0 : (x.op == 0) = false := by simpa using h0
          clear h0
          by_cases h1 : x.op = 1
          · have e1 : (x.op == 1) = true := by simpa using h1
            clear h1
            go_wp2
            go_region
            go_wp2
            have hst := ((HST.out.alloc (.cells #[.int .i64 x.op, .int .i64 x.ep, .int .i64 x.n, .slice va x.b.length vc] 32)).drew).drew
            have hxb := BlockAt.new wr 32 [.int .i64 x.op, .int .i64 x.ep, .int .i64 x.n, .slice va x.b.length vc]
            refine wp_region_lex (fun W => W.cell? ⟨wr.heap.size, 3, none⟩ = some (.slice va x.b.length vc)) [4, 9] (by kernel_rfl) (by kernel_rfl) (hxb.drew.drew.cell 3 _ rfl) ?_
            repeat (first | (refine LexL.none (by rfl) ?_; (try simp only [Act.put, List.setIfInBounds_toArray, List.set_cons_zero, List.set_cons_succ])) | (refine LexL.still (v := ?_) (by rfl) ?_ ?_; rotate_left; (focus (intro W hW; (try dsimp only at hW); go_simp; (try (with_reducible rfl)); done)); (try simp only [Act.put, List.setIfInBounds_toArray, List.set_cons_zero, List.set_cons_succ])))
            refine LexL.call (f := 18) (args := #[.pointer (some ⟨b, 0, none⟩), .int .i64 (wrap64 (d.ep - x.ep)), .slice va x.b.length vc]) (w1 := (wr.alloc (.cells #[.int .i64 x.op, .int .i64 x.ep, .int .i64 x.n, .slice va x.b.length vc] 32)).drew.drew) (by rfl) (by decide) (by go_simp) ?_
            have hyb := ((HL.out.keep hst.below).get HX.out).choose_spec.choose_spec.2.1
            rw [HV.out] at hyb
            refine (append_any b d F1 _ _ x.b _ hst.D hst.ok1 hyb (by omega)).mono ?_
            intro e w4 hp
            obtain ⟨rfl, F3, hs4, hu4⟩ := hst.stepD hp (Dsk.append_ok hst.ok1 _ _)
            have hxb4 := hxb.drew.drew.upd hu4 FAR1.out
            refine ⟨_, rfl, hxb4.cell 3 _ rfl, ?_⟩
            try simp only [Act.put, List.setIfInBounds_toArray, List.set_cons_zero, List.set_cons_succ]
            repeat (first | (refine LexL.none (by rfl) ?_; (try simp only [Act.put, List.setIfInBounds_toArray, List.set_cons_zero, List.set_cons_succ])) | (refine LexL.still (v := ?_) (by rfl) ?_ ?_; rotate_left; (focus (intro W hW; (try dsimp only at hW); go_simp; (try (with_reducible rfl)); done)); (try simp only [Act.put, List.setIfInBounds_toArray, List.set_cons_zero, List.set_cons_succ])))
            have hyb4 := ((HL.out.keep hs4.below).get HX.out).choose_spec.choose_spec.2.1
            rw [HV.out] at hyb4
            refine LexL.call (f := 19) (args := #[.pointer (some ⟨q, 0, none⟩), .int .i64 (wrap64 (d.ep - x.ep)), .slice va x.b.length vc]) (w1 := w4) (by rfl) (by decide) (by go_simp) ?_
            refine (pappend_any q 30 [] d F2 _ _ x.b _ hs4.P hs4.ok2 hyb4 (by omega)).mono ?_
            intro e w5 hp
            obtain ⟨rfl, F4, hs5, hu5⟩ := hs4.stepP hp (Dsk.append_ok hs4.ok2 _ _)
            refine ⟨_, rfl, (hxb4.upd hu5 FAR2.out).cell 3 _ rfl, ?_⟩
            have HS5 := Lib.hid hs5
            clear hp hs5 hu5 hyb4 hyb hs4 hu4 hxb4 hst hxb p0 p1
            try simp only [Act.put, List.setIfInBounds_toArray, List.set_cons_zero, List.set_cons_succ]
            repeat (first | (refine LexL.none (by rfl) ?_; (try simp only [Act.put, List.setIfInBounds_toArray, List.set_cons_zero, List.set_cons_succ])) | (refine LexL.still (v := ?_) (by rfl) ?_ ?_; rotate_left; (focus (intro W hW; (try dsimp only at hW); go_simp; (try (with_reducible rfl)); done)); (try simp only [Act.put, List.setIfInBounds_toArray, List.set_cons_zero, List.set_cons_succ])))
            refine LexL.done ?_
            generalize (d.append (wrap64 (d.ep - x.ep)) x.b).1 = d' at *
            generalize (d.append (wrap64 (d.ep - x.ep)) x.b).2 = r1 at *
            obtain ⟨F5, F6, HS6⟩ : ∃ F5 F6, Hid (DP2 w w5 b q d' d' F5 F6) := ⟨_, _, HS5⟩
            clear HS5
            obtain ⟨pv, hs2⟩ := Same2.of HS6.out
            obtain ⟨_, plt, p0, p1, hpv⟩ := hs2
            have HPV := Lib.hid hpv
            clear hpv
            go_wp2
            have hz0 := run_string_bytes (HPV.out.keep (Below.drew (Below.refl _ _)))
            refine wp_region_lex (fun W => W.cell? ⟨q, 0, none⟩ = some (.int .i64 d'.ep) ∧ W.cell? ⟨q, 1, none⟩ = some pv ∧ (convert 28 9 pv).run Try.prog W = .ok (.string (strOf d'.b)) W) [1, 7, 9, 10] (by kernel_rfl) (by kernel_rfl) ⟨p0, p1, hz0⟩ ?_
            repeat (first | (refine LexL.none (by rfl) ?_; (try simp only [Act.put, List.setIfInBounds_toArray, List.set_cons_zero, List.set_cons_succ])) | (refine LexL.still (v := ?_) (by rfl) ?_ ?_; rotate_left; (focus (intro W hW; (try dsimp only at hW); go_simp; (try (with_reducible rfl)); done)); (try simp only [Act.put, List.setIfInBounds_toArray, List.set_cons_zero, List.set_cons_succ])))
            refine LexL.call (f := 22) (args := #[.pointer (some ⟨b, 0, none⟩)]) (w1 := w5.drew) (by rfl) (by decide) (by go_simp) ?_
            refine (epoch_any b d' F5 _ HS6.out.drew.D).mono ?_
            rintro e w6 ⟨rfl, rfl⟩
            refine ⟨_, rfl, ⟨p0, p1, hz0⟩, ?_⟩
            try simp only [Act.put, List.setIfInBounds_toArray, List.set_cons_zero, List.set_cons_succ]
            repeat (first | (refine LexL.none (by rfl) ?_; (try simp only [Act.put, List.setIfInBounds_toArray, List.set_cons_zero, List.set_cons_succ])) | (refine LexL.still (v := ?_) (by rfl) ?_ ?_; rotate_left; (focus (intro W hW; (try dsimp only at hW); go_simp; (try (with_reducible rfl)); done)); (try simp only [Act.put, List.setIfInBounds_toArray, List.set_cons_zero, List.set_cons_succ])))
            refine LexL.call (f := 23) (args := #[.pointer (some ⟨b, 0, none⟩)]) (w1 := w5.drew) (by rfl) (by decide) (by go_simp) ?_
            refine (bytes_any b d' F5 _ HS6.out.drew.D HS6.out.ok1).mono ?_
            rintro e w6 ⟨v6, rfl, h6, hb6, _⟩
            have hs6 := run_string_bytes h6.bytes
            have hs7 := run_string_bytes ((HPV.out.keep (Below.drew (Below.refl _ _))).keep hb6)
            refine ⟨_, rfl, ⟨(hb6.cell plt).trans p0, (hb6.cell plt).trans p1, hs7⟩, ?_⟩
            try simp only [Act.put, List.setIfInBounds_toArray, List.set_cons_zero, List.set_cons_succ]
            refine LexL.value (v := .string (strOf d'.b)) (w1 := w6) (by rfl) (by decide) (by go_simp) ⟨(hb6.cell plt).trans p0, (hb6.cell plt).trans p1, hs7⟩ ?_
            try simp only [Act.put, List.setIfInBounds_toArray, List.set_cons_zero, List.set_cons_succ]
            repeat (first | (refine LexL.none (by rfl) ?_; (try simp only [Act.put, List.setIfInBounds_toArray, List.set_cons_zero, List.set_cons_succ])) | (refine LexL.still (v := ?_) (by rfl) ?_ ?_; rotate_left; (focus (intro W hW; (try dsimp only at hW); go_simp; (try (with_reducible rfl)); done)); (try simp only [Act.put, List.setIfInBounds_toArray, List.set_cons_zero, List.set_cons_succ])))
            refine LexL.done ?_
            have HS7 := Lib.hid (HS6.out.drew.new hb6)
            clear h6 hb6 hs6 hs7 p0 p1 hz0
            go_wp2
            go_roundw
            case rel => exact ⟨k + 1, _, _, _, by omega, by go_num, HS7.out⟩
            case measure => simp [intOf]; omega
          · have e1 : (x.op == 1) = false := by simpa using h1
            clear h1
            by_cases h2 : x.op = 2
            · have e2 : (x.op == 2) = true := by simpa using h2
              clear h2
              go_wp2
              go_region
              go_wp2
              have hst := ((HST.out.alloc (.cells #[.int .i64 x.op, .int .i64 x.ep, .int .i64 x.n, .slice va x.b.length vc] 32)).drew).drew
              have hxb := BlockAt.new wr 32 [.int .i64 x.op, .int .i64 x.ep, .int .i64 x.n, .slice va x.b.length vc]
              refine wp_region_lex (fun W => W.cell? ⟨wr.heap.size, 2, none⟩ = some (.int .i64 x.n)) [4, 9] (by kernel_rfl) (by kernel_rfl) (hxb.drew.drew.cell 2 _ rfl) ?_
              repeat (first | (refine LexL.none (by rfl) ?_; (try simp only [Act.put, List.setIfInBounds_toArray, List.set_cons_zero, List.set_cons_succ])) | (refine LexL.still (v := ?_) (by rfl) ?_ ?_; rotate_left; (focus (intro W hW; (try dsimp only at hW); go_simp; (try (with_reducible rfl)); done)); (try simp only [Act.put, List.setIfInBounds_toArray, List.set_cons_zero, List.set_cons_succ])))
              refine LexL.call (f := 20) (args := #[.pointer (some ⟨b, 0, none⟩), .int .i64 (wrap64 (d.ep - x.ep)), .int .i64 x.n]) (w1 := (wr.alloc (.cells #[.int .i64 x.op, .int .i64 x.ep, .int .i64 x.n, .slice va x.b.length vc] 32)).drew.drew) (by rfl) (by decide) (by go_simp) ?_
              refine (cut_any b d F1 _ _ _ hst.D hst.ok1).mono ?_
              intro e w4 hp
              obtain ⟨rfl, F3, hs4, hu4⟩ := hst.stepD hp (Dsk.cut_ok hst.ok1 _ _)
              have hxb4 := hxb.drew.drew.upd hu4 FAR1.out
              refine ⟨_, rfl, hxb4.cell 2 _ rfl, ?_⟩
              try simp only [Act.put, List.setIfInBounds_toArray, List.set_cons_zero, List.set_cons_succ]
              repeat (first | (refine LexL.none (by rfl) ?_; (try simp only [Act.put, List.setIfInBounds_toArray, List.set_cons_zero, List.set_cons_succ])) | (refine LexL.still (v := ?_) (by rfl) ?_ ?_; rotate_left; (focus (intro W hW; (try dsimp only at hW); go_simp; (try (with_reducible rfl)); done)); (try simp only [Act.put, List.setIfInBounds_toArray, List.set_cons_zero, List.set_cons_succ])))
              refine LexL.call (f := 21) (args := #[.pointer (some ⟨q, 0, none⟩), .int .i64 (wrap64 (d.ep - x.ep)), .int .i64 x.n]) (w1 := w4) (by rfl) (by decide) (by go_simp) ?_
              refine (pcut_any q 30 [] d F2 _ _ _ hs4.P hs4.ok2).mono ?_
              intro e w5 hp
              obtain ⟨rfl, F4, hs5, hu5⟩ := hs4.stepP hp (Dsk.cut_ok hs4.ok2 _ _)
              refine ⟨_, rfl, (hxb4.upd hu5 FAR2.out).cell 2 _ rfl, ?_⟩
              have HS5 := Lib.hid hs5
              clear hp hs5 hu5 hs4 hu4 hxb4 hst hxb p0 p1
              try simp only [Act.put, List.setIfInBounds_toArray, List.set_cons_zero, List.set_cons_succ]
              repeat (first | (refine LexL.none (by rfl) ?_; (try simp only [Act.put, List.setIfInBounds_toArray, List.set_cons_zero, List.set_cons_succ])) | (refine LexL.still (v := ?_) (by rfl) ?_ ?_; rotate_left; (focus (intro W hW; (try dsimp only at hW); go_simp; (try (with_reducible rfl)); done)); (try simp only [Act.put, List.setIfInBounds_toArray, List.set_cons_zero, List.set_cons_succ])))
              refine LexL.done ?_
              generalize (d.cut (wrap64 (d.ep - x.ep)) x.n).1 = d' at *
              generalize (d.cut (wrap64 (d.ep - x.ep)) x.n).2 = r1 at *
              obtain ⟨F5, F6, HS6⟩ : ∃ F5 F6, Hid (DP2 w w5 b q d' d' F5 F6) := ⟨_, _, HS5⟩
              clear HS5
              obtain ⟨pv, hs2⟩ := Same2.of HS6.out
              obtain ⟨_, plt, p0, p1, hpv⟩ := hs2
              have HPV := Lib.hid hpv
              clear hpv
              go_wp2
              have hz0 := run_string_bytes (HPV.out.keep (Below.drew (Below.refl _ _)))
              refine wp_region_lex (fun W => W.cell? ⟨q, 0, none⟩ = some (.int .i64 d'.ep) ∧ W.cell? ⟨q, 1, none⟩ = some pv ∧ (convert 28 9 pv).run Try.prog W = .ok (.string (strOf d'.b)) W) [1, 7, 9, 10] (by kernel_rfl) (by kernel_rfl) ⟨p0, p1, hz0⟩ ?_
              repeat (first | (refine LexL.none (by rfl) ?_; (try simp only [Act.put, List.setIfInBounds_toArray, List.set_cons_zero, List.set_cons_succ])) | (refine LexL.still (v := ?_) (by rfl) ?_ ?_; rotate_left; (focus (intro W hW; (try dsimp only at hW); go_simp; (try (with_reducible rfl)); done)); (try simp only [Act.put, List.setIfInBounds_toArray, List.set_cons_zero, List.set_cons_succ])))
              refine LexL.call (f := 22) (args := #[.pointer (some ⟨b, 0, none⟩)]) (w1 := w5.drew) (by rfl) (by decide) (by go_simp) ?_
              refine (epoch_any b d' F5 _ HS6.out.drew.D).mono ?_
              rintro e w6 ⟨rfl, rfl⟩
              refine ⟨_, rfl, ⟨p0, p1, hz0⟩, ?_⟩
              try simp only [Act.put, List.setIfInBounds_toArray, List.set_cons_zero, List.set_cons_succ]
              repeat (first | (refine LexL.none (by rfl) ?_; (try simp only [Act.put, List.setIfInBounds_toArray, List.set_cons_zero, List.set_cons_succ])) | (refine LexL.still (v := ?_) (by rfl) ?_ ?_; rotate_left; (focus (intro W hW; (try dsimp only at hW); go_simp; (try (with_reducible rfl)); done)); (try simp only [Act.put, List.setIfInBounds_toArray, List.set_cons_zero, List.set_cons_succ])))
              refine LexL.call (f := 23) (args := #[.pointer (some ⟨b, 0, none⟩)]) (w1 := w5.drew) (by rfl) (by decide) (by go_simp) ?_
              refine (bytes_any b d' F5 _ HS6.out.drew.D HS6.out.ok1).mono ?_
              rintro e w6 ⟨v6, rfl, h6, hb6, _⟩
              have hs6 := run_string_bytes h6.bytes
              have hs7 := run_string_bytes ((HPV.out.keep (Below.drew (Below.refl _ _))).keep hb6)
              refine ⟨_, rfl, ⟨(hb6.cell plt).trans p0, (hb6.cell plt).trans p1, hs7⟩, ?_⟩
              try simp only [Act.put, List.setIfInBounds_toArray, List.set_cons_zero, List.set_cons_succ]
              refine LexL.value (v := .string (strOf d'.b)) (w1 := w6) (by rfl) (by decide) (by go_simp) ⟨(hb6.cell plt).trans p0, (hb6.cell plt).trans p1, hs7⟩ ?_
              try simp only [Act.put, List.setIfInBounds_toArray, List.set_cons_zero, List.set_cons_succ]
              repeat (first | (refine LexL.none (by rfl) ?_; (try simp only [Act.put, List.setIfInBounds_toArray, List.set_cons_zero, List.set_cons_succ])) | (refine LexL.still (v := ?_) (by rfl) ?_ ?_; rotate_left; (focus (intro W hW; (try dsimp only at hW); go_simp; (try (with_reducible rfl)); done)); (try simp only [Act.put, List.setIfInBounds_toArray, List.set_cons_zero, List.set_cons_succ])))
              refine LexL.done ?_
              have HS7 := Lib.hid (HS6.out.drew.new hb6)
              clear h6 hb6 hs6 hs7 p0 p1 hz0
              go_wp2
              go_roundw
              case rel => exact ⟨k + 1, _, _, _, by omega, by go_num, HS7.out⟩
              case measure => simp [intOf]; omega
            · have e2 : (x.op == 2) = false := by simpa using h2
              clear h2
              have hs5 := (HST.out.alloc (.cells #[.int .i64 x.op, .int .i64 x.ep, .int .i64 x.n, .slice va x.b.length vc] 32)).drew
              have HS5 := Lib.hid hs5
              clear hs5
              go_wp2
              go_region
              go_wp2
              clear p0 p1
              obtain ⟨w5, hw5⟩ : ∃ w5, w5 = (wr.alloc (.cells #[.int .i64 x.op, .int .i64 x.ep, .int .i64 x.n, .slice va x.b.length vc] 32)).drew := ⟨_, rfl⟩
              rw [← hw5] at HS5 ⊢
              clear hw5
              obtain ⟨d', hd'⟩ : ∃ d', d' = d := ⟨_, rfl⟩
              rw [← hd'] at HS5
              have HD := Lib.hid hd'; clear hd'
              have F3 := F1
              obtain ⟨F5, F6, HS6⟩ : ∃ F5 F6, Hid (DP2 w w5 b q d' d' F5 F6) := ⟨_, _, HS5⟩
              clear HS5
              obtain ⟨pv, hs2⟩ := Same2.of HS6.out
              obtain ⟨_, plt, p0, p1, hpv⟩ := hs2
              have HPV := Lib.hid hpv
              clear hpv
              go_wp2
              have hz0 := run_string_bytes (HPV.out.keep (Below.drew (Below.refl _ _)))
              refine wp_region_lex (fun W => W.cell? ⟨q, 0, none⟩ = some (.int .i64 d'.ep) ∧ W.cell? ⟨q, 1, none⟩ = some pv ∧ (convert 28 9 pv).run Try.prog W = .ok (.string (strOf d'.b)) W) [1, 7, 9, 10] (by kernel_rfl) (by kernel_rfl) ⟨p0, p1, hz0⟩ ?_
              repeat (first | (refine LexL.none (by rfl) ?_; (try simp only [Act.put, List.setIfInBounds_toArray, List.set_cons_zero, List.set_cons_succ])) | (refine LexL.still (v := ?_) (by rfl) ?_ ?_; rotate_left; (focus (intro W hW; (try dsimp only at hW); go_simp; (try (with_reducible rfl)); done)); (try simp only [Act.put, List.setIfInBounds_toArray, List.set_cons_zero, List.set_cons_succ])))
              refine LexL.call (f := 22) (args := #[.pointer (some ⟨b, 0, none⟩)]) (w1 := w5.drew) (by rfl) (by decide) (by go_simp) ?_
              refine (epoch_any b d' F5 _ HS6.out.drew.D).mono ?_
              rintro e w6 ⟨rfl, rfl⟩
              refine ⟨_, rfl, ⟨p0, p1, hz0⟩, ?_⟩
              try simp only [Act.put, List.setIfInBounds_toArray, List.set_cons_zero, List.set_cons_succ]
              repeat (first | (refine LexL.none (by rfl) ?_; (try simp only [Act.put, List.setIfInBounds_toArray, List.set_cons_zero, List.set_cons_succ])) | (refine LexL.still (v := ?_) (by rfl) ?_ ?_; rotate_left; (focus (intro W hW; (try dsimp only at hW); go_simp; (try (with_reducible rfl)); done)); (try simp only [Act.put, List.setIfInBounds_toArray, List.set_cons_zero, List.set_cons_succ])))
              refine LexL.call (f := 23) (args := #[.pointer (some ⟨b, 0, none⟩)]) (w1 := w5.drew) (by rfl) (by decide) (by go_simp) ?_
              refine (bytes_any b d' F5 _ HS6.out.drew.D HS6.out.ok1).mono ?_
              rintro e w6 ⟨v6, rfl, h6, hb6, _⟩
              have hs6 := run_string_bytes h6.bytes
              have hs7 := run_string_bytes ((HPV.out.keep (Below.drew (Below.refl _ _))).keep hb6)
              refine ⟨_, rfl, ⟨(hb6.cell plt).trans p0, (hb6.cell plt).trans p1, hs7⟩, ?_⟩
              try simp only [Act.put, List.setIfInBounds_toArray, List.set_cons_zero, List.set_cons_succ]
              refine LexL.value (v := .string (strOf d'.b)) (w1 := w6) (by rfl) (by decide) (by go_simp) ⟨(hb6.cell plt).trans p0, (hb6.cell plt).trans p1, hs7⟩ ?_
              try simp only [Act.put, List.setIfInBounds_toArray, List.set_cons_zero, List.set_cons_succ]
              repeat (first | (refine LexL.none (by rfl) ?_; (try simp only [Act.put, List.setIfInBounds_toArray, List.set_cons_zero, List.set_cons_succ])) | (refine LexL.still (v := ?_) (by rfl) ?_ ?_; rotate_left; (focus (intro W hW; (try dsimp only at hW); go_simp; (try (with_reducible rfl)); done)); (try simp only [Act.put, List.setIfInBounds_toArray, List.set_cons_zero, List.set_cons_succ])))
              refine LexL.done ?_
              have HS7 := Lib.hid (HS6.out.drew.new hb6)
              clear h6 hb6 hs6 hs7 p0 p1 hz0
              go_wp2
              go_roundw
              case rel => exact ⟨k + 1, _, _, _, by omega, by go_num, HS7.out⟩
              case measure => simp [intOf]; omega
      · obtain rfl : k = L.length := by omega
        go_wp2
        go_ret
        exact ⟨rfl, HST.out.below⟩

end Go.Proofs.Ytfihmpkkpgmdhaa
