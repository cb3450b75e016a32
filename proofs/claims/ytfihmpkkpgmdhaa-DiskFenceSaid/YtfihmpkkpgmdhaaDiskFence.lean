/-
  DiskFence, walked: who was fenced writes nothing.
-/
import Derived.Test.YtfihmpkkpgmdhaaDiskLaw
import Derived.Test.YtfihmpkkpgmdhaaLex
namespace Go.Proofs.Ytfihmpkkpgmdhaa
set_option linter.unusedSimpArgs false
set_option linter.unusedVariables false
open Go.RowKit

theorem fence_old (e x : Int) (h0 : 0 ≤ e) (h1 : e ≤ 100) : wrap64 (e - wrap64 ((IntKind.u64.wrap x).tmod 100)) ≤ e := by
  have hx : 0 ≤ IntKind.u64.wrap x := Int.emod_nonneg x (show (2 ^ 64 : Int) ≠ 0 by decide)
  generalize IntKind.u64.wrap x = y at *
  have a := Int.tmod_nonneg 100 hx
  have b := Int.tmod_lt_of_pos y (show (0 : Int) < 100 by omega)
  generalize y.tmod 100 = t at *
  have e1 : wrap64 t = t := IntWalk.wrap64_in _ ⟨by omega, by omega⟩
  have e2 : wrap64 (e - t) = e - t := IntWalk.wrap64_in _ ⟨by omega, by omega⟩
  rw [e1, e2]
  omega

set_option maxRecDepth 100000 in
set_option maxHeartbeats 8000000 in
theorem diskFence_any (v v' : Value) (L M : List DStep) (w : World) (h : StepsAt w v L) (h' : StepsAt w v' M) :
    Calls Try.prog 4 #[v, v'] w fun e w' => e = .returned (.bool true) ∧ Below w.heap.size w w' := by
  have HL := Lib.hid h
  have HM := Lib.hid h'
  obtain ⟨a, c, rfl, hlen⟩ := h.shape
  obtain ⟨a', c', rfl, hlen'⟩ := h'.shape
  clear h h'
  go_enter Try.func4, Try.ntmps4
  go_wp2_with fail
  refine (diskBegun_any w).mono ?_
  rintro e w1 ⟨rfl, hb1⟩
  have HB1 := Lib.hid hb1; clear hb1
  go_wp2_with fail
  refine (greatDisk_any _ L w1 (HL.out.keep HB1.out)).mono ?_
  rintro e w2 ⟨g, rfl, rfl, hg⟩
  have HG := Lib.hid hg; clear hg
  cases g with
  | true =>
    go_wp2
    go_ret
    exact ⟨rfl, HB1.out⟩
  | false =>
    go_wp2_with fail
    refine (greatDisk_any _ M w1 (HM.out.keep HB1.out)).mono ?_
    rintro e w2 ⟨g, rfl, rfl, hg⟩
    have HG' := Lib.hid hg; clear hg
    cases g with
    | true =>
      go_wp2
      go_ret
      exact ⟨rfl, HB1.out⟩
    | false =>
      go_wp2_with fail
      refine (dnew_st HB1.out).mono ?_
      rintro e w3 ⟨b, F1, rfl, hs⟩
      have HS := Lib.hid hs; clear hs
      go_wp2
      go_loopw [6] (fun i wr => ∃ (k : Nat) (d : Dsk) (F : Nat → Prop), k ≤ L.length ∧ i = .int .i64 k ∧ DSt w wr b d F) (fun i _ => L.length - (intOf i).toNat)
      case atStart => exact ⟨0, _, _, by omega, rfl, HS.out⟩
      case round =>
        obtain ⟨k, d, F, hk, rfl, hst⟩ := hrel
        have HST := Lib.hid hst; clear hst
        by_cases hlt : k < L.length
        · obtain ⟨x, hx⟩ : ∃ x, L[k]? = some x := ⟨_, List.getElem?_eq_getElem hlt⟩
          obtain ⟨g, off, rfl, hby, i1, i2, i3, c0, c1, c2, c3⟩ := (HL.out.keep HST.out.below).get hx
          have hxl := (HG.out trivial).2 x (List.mem_of_getElem? hx)
          have hlt2 := World.block_lt_of_cell? _ _ c0
          obtain ⟨va, vc, hv, _⟩ := hby
          rw [hv] at c3
          have HX := Lib.hid hx; have HV := Lib.hid hv
          have FAR := Lib.hid HST.out.far
          clear hx hv i1 i2 i3
          by_cases h0 : x.op = 0
          · have e0 : (x.op == 0) = true := by simpa using h0
            clear h0
            go_wp2_with fail
            refine (raise_st (HST.out.alloc (.cells #[.int .i64 x.op, .int .i64 x.ep, .int .i64 x.n, .slice va x.b.length vc] 32))).mono ?_
            rintro e w4 ⟨rfl, F3, hs4⟩
            have HS4 := Lib.hid hs4; clear hs4
            go_wp2
            go_roundw
            case rel => exact ⟨k + 1, _, _, by omega, by go_num, HS4.out⟩
            case measure => simp [intOf]; omega
          · have e0 : (x.op == 0) = false := by simpa using h0
            clear h0
            by_cases h1 : x.op = 1
            · have e1 : (x.op == 1) = true := by simpa using h1
              clear h1
              go_wp2
              have hst := (HST.out.alloc (.cells #[.int .i64 x.op, .int .i64 x.ep, .int .i64 x.n, .slice va x.b.length vc] 32)).drew
              have hxb := (BlockAt.new wr 32 [.int .i64 x.op, .int .i64 x.ep, .int .i64 x.n, .slice va x.b.length vc]).drew
              have hwr : IntKind.i64.wrap (d.ep - x.ep) = wrap64 (d.ep - x.ep) := by simp only [wrap64, IntKind.wrap_i64]
              refine wp_region_lex (fun W => W.cell? ⟨wr.heap.size, 1, none⟩ = some (.int .i64 x.ep) ∧ W.cell? ⟨wr.heap.size, 3, none⟩ = some (.slice va x.b.length vc)) [2, 5, 8] (by kernel_rfl) (by kernel_rfl) ⟨hxb.cell 1 _ rfl, hxb.cell 3 _ rfl⟩ ?_
              repeat (first | (refine LexL.none (by rfl) ?_; (try simp only [Act.put, List.setIfInBounds_toArray, List.set_cons_zero, List.set_cons_succ])) | (refine LexL.still (v := ?_) (by rfl) ?_ ?_; rotate_left; (focus (intro W hW; (try dsimp only at hW); go_simp; (try (with_reducible rfl)); done)); (try simp only [Act.put, List.setIfInBounds_toArray, List.set_cons_zero, List.set_cons_succ])))
              refine LexL.call (f := 22) (args := #[.pointer (some ⟨b, 0, none⟩)]) (w1 := (wr.alloc (.cells #[.int .i64 x.op, .int .i64 x.ep, .int .i64 x.n, .slice va x.b.length vc] 32)).drew) (by rfl) (by decide) (by go_simp) ?_
              refine (epoch_any b d F _ hst.at_).mono ?_
              rintro e w4 ⟨rfl, rfl⟩
              refine ⟨_, rfl, ⟨hxb.cell 1 _ rfl, hxb.cell 3 _ rfl⟩, ?_⟩
              try simp only [Act.put, List.setIfInBounds_toArray, List.set_cons_zero, List.set_cons_succ]
              repeat (first | (refine LexL.none (by rfl) ?_; (try simp only [Act.put, List.setIfInBounds_toArray, List.set_cons_zero, List.set_cons_succ])) | (refine LexL.still (v := ?_) (by rfl) ?_ ?_; rotate_left; (focus (intro W hW; (try dsimp only at hW); go_simp; (try (with_reducible rfl)); done)); (try simp only [Act.put, List.setIfInBounds_toArray, List.set_cons_zero, List.set_cons_succ])))
              have hyb := ((HL.out.keep hst.below).get HX.out).choose_spec.choose_spec.2.1
              rw [HV.out] at hyb
              refine LexL.call (f := 18) (args := #[.pointer (some ⟨b, 0, none⟩), .int .i64 (wrap64 (d.ep - x.ep)), .slice va x.b.length vc]) (w1 := (wr.alloc (.cells #[.int .i64 x.op, .int .i64 x.ep, .int .i64 x.n, .slice va x.b.length vc] 32)).drew) (by rfl) (by decide) (by go_simp) ?_
              refine (append_any b d F _ _ x.b _ hst.at_ hst.ok hyb (by omega)).mono ?_
              intro e w4 hp
              obtain ⟨rfl, F3, hs4, hfr, hu4⟩ := hst.post hp (Dsk.append_ok hst.ok _ _)
              have hxb4 := hxb.upd hu4 FAR.out
              refine ⟨_, rfl, ⟨hxb4.cell 1 _ rfl, hxb4.cell 3 _ rfl⟩, ?_⟩
              try simp only [Act.put, List.setIfInBounds_toArray, List.set_cons_zero, List.set_cons_succ]
              have HS4 := Lib.hid hs4
              clear hs4 hp hu4 hfr hxb4 hyb hst hxb
              refine LexL.done ?_
              go_wp2
              go_roundw
              case rel => exact ⟨k + 1, _, _, by omega, by go_num, HS4.out⟩
              case measure => simp [intOf]; omega
            · have e1 : (x.op == 1) = false := by simpa using h1
              clear h1
              by_cases h2 : x.op = 2
              · have e2 : (x.op == 2) = true := by simpa using h2
                clear h2
                go_wp2
                have hst := (HST.out.alloc (.cells #[.int .i64 x.op, .int .i64 x.ep, .int .i64 x.n, .slice va x.b.length vc] 32)).drew
                have hxb := (BlockAt.new wr 32 [.int .i64 x.op, .int .i64 x.ep, .int .i64 x.n, .slice va x.b.length vc]).drew
                have hwr : IntKind.i64.wrap (d.ep - x.ep) = wrap64 (d.ep - x.ep) := by simp only [wrap64, IntKind.wrap_i64]
                refine wp_region_lex (fun W => W.cell? ⟨wr.heap.size, 1, none⟩ = some (.int .i64 x.ep) ∧ W.cell? ⟨wr.heap.size, 2, none⟩ = some (.int .i64 x.n)) [2, 5, 8] (by kernel_rfl) (by kernel_rfl) ⟨hxb.cell 1 _ rfl, hxb.cell 2 _ rfl⟩ ?_
                repeat (first | (refine LexL.none (by rfl) ?_; (try simp only [Act.put, List.setIfInBounds_toArray, List.set_cons_zero, List.set_cons_succ])) | (refine LexL.still (v := ?_) (by rfl) ?_ ?_; rotate_left; (focus (intro W hW; (try dsimp only at hW); go_simp; (try (with_reducible rfl)); done)); (try simp only [Act.put, List.setIfInBounds_toArray, List.set_cons_zero, List.set_cons_succ])))
                refine LexL.call (f := 22) (args := #[.pointer (some ⟨b, 0, none⟩)]) (w1 := (wr.alloc (.cells #[.int .i64 x.op, .int .i64 x.ep, .int .i64 x.n, .slice va x.b.length vc] 32)).drew) (by rfl) (by decide) (by go_simp) ?_
                refine (epoch_any b d F _ hst.at_).mono ?_
                rintro e w4 ⟨rfl, rfl⟩
                refine ⟨_, rfl, ⟨hxb.cell 1 _ rfl, hxb.cell 2 _ rfl⟩, ?_⟩
                try simp only [Act.put, List.setIfInBounds_toArray, List.set_cons_zero, List.set_cons_succ]
                repeat (first | (refine LexL.none (by rfl) ?_; (try simp only [Act.put, List.setIfInBounds_toArray, List.set_cons_zero, List.set_cons_succ])) | (refine LexL.still (v := ?_) (by rfl) ?_ ?_; rotate_left; (focus (intro W hW; (try dsimp only at hW); go_simp; (try (with_reducible rfl)); done)); (try simp only [Act.put, List.setIfInBounds_toArray, List.set_cons_zero, List.set_cons_succ])))
                refine LexL.call (f := 20) (args := #[.pointer (some ⟨b, 0, none⟩), .int .i64 (wrap64 (d.ep - x.ep)), .int .i64 x.n]) (w1 := (wr.alloc (.cells #[.int .i64 x.op, .int .i64 x.ep, .int .i64 x.n, .slice va x.b.length vc] 32)).drew) (by rfl) (by decide) (by go_simp) ?_
                refine (cut_any b d F _ _ _ hst.at_ hst.ok).mono ?_
                intro e w4 hp
                obtain ⟨rfl, F3, hs4, hfr, hu4⟩ := hst.post hp (Dsk.cut_ok hst.ok _ _)
                have hxb4 := hxb.upd hu4 FAR.out
                refine ⟨_, rfl, ⟨hxb4.cell 1 _ rfl, hxb4.cell 2 _ rfl⟩, ?_⟩
                try simp only [Act.put, List.setIfInBounds_toArray, List.set_cons_zero, List.set_cons_succ]
                have HS4 := Lib.hid hs4
                clear hs4 hp hu4 hfr hxb4 hst hxb
                refine LexL.done ?_
                go_wp2
                go_roundw
                case rel => exact ⟨k + 1, _, _, by omega, by go_num, HS4.out⟩
                case measure => simp [intOf]; omega
              · have e2 : (x.op == 2) = false := by simpa using h2
                clear h2
                have HS4 := Lib.hid (HST.out.alloc (.cells #[.int .i64 x.op, .int .i64 x.ep, .int .i64 x.n, .slice va x.b.length vc] 32))
                go_wp2
                go_roundw
                case rel => exact ⟨k + 1, _, _, by omega, by go_num, HS4.out⟩
                case measure => simp [intOf]; omega
        · obtain rfl : k = L.length := by omega
          by_cases hr : 100 ≤ d.ep
          · have hep : d.ep = 100 := by have := HST.out.ok.ep; omega
            have er : d.raise = (d, 0, 8) := by rw [Dsk.raise, if_pos hr]
            clear hr
            go_wp2_with fail
            refine (raise_st HST.out).mono ?_
            rw [er]
            rintro e w4 ⟨rfl, F3, hs4⟩
            have HS4 := Lib.hid hs4
            have HE := Lib.hid hep
            clear hs4 er hep
            go_wp2_with fail
            refine (epoch_any b d F3 _ HS4.out.at_).mono ?_
            rw [HE.out]
            rintro e w5 ⟨rfl, rfl⟩
            go_wp2
            go_ret
            exact ⟨rfl, HS4.out.below⟩
          · have er : d.raise = (⟨d.ep + 1, d.b⟩, d.ep + 1, 0) := by rw [Dsk.raise, if_neg hr]
            have h0 := HST.out.ok.ep.1
            have h1 := HST.out.ok.ep.2
            have h2 : d.ep < 100 := by omega
            clear hr
            go_wp2_with fail
            refine (raise_st HST.out).mono ?_
            rw [er]
            rintro e w4 ⟨rfl, F3, hs4⟩
            have HS4 := Lib.hid hs4
            clear hs4 er
            go_wp2_with fail
            refine (bytes_any b _ F3 _ HS4.out.at_ HS4.out.ok).mono ?_
            rintro e w5 ⟨v5, rfl, h5, hb5, _⟩
            have hz5 := run_string_bytes h5.bytes
            have HS5 := Lib.hid (HS4.out.new hb5)
            clear h5 hb5
            clear hlt
            go_wp2
            go_loopw [11] (fun i wr => ∃ (k : Nat) (F : Nat → Prop), k ≤ M.length ∧ i = .int .i64 k ∧ DSt w wr b ⟨d.ep + 1, d.b⟩ F) (fun i _ => M.length - (intOf i).toNat)
            case atStart => exact ⟨0, _, by omega, rfl, HS5.out⟩
            case round =>
              obtain ⟨k, F, hk, rfl, hst⟩ := hrel
              have HST := Lib.hid hst; clear hst
              by_cases hlt : k < M.length
              · obtain ⟨x, hx⟩ : ∃ x, M[k]? = some x := ⟨_, List.getElem?_eq_getElem hlt⟩
                obtain ⟨g, off, rfl, hby, i1, i2, i3, c0, c1, c2, c3⟩ := (HM.out.keep HST.out.below).get hx
                have hxl := (HG'.out trivial).2 x (List.mem_of_getElem? hx)
                have hlt2 := World.block_lt_of_cell? _ _ c0
                obtain ⟨va, vc, hv, _⟩ := hby
                rw [hv] at c3
                have HX := Lib.hid hx; have HV := Lib.hid hv
                have FAR := Lib.hid HST.out.far
                clear hx hv i1 i3
                unfold I64 at i2
                go_wp2
                have hold := fence_old d.ep x.ep h0 (by omega)
                generalize wrap64 (d.ep - wrap64 ((IntKind.u64.wrap x.ep).tmod 100)) = o at *
                have ea : (⟨d.ep + 1, d.b⟩ : Dsk).append o x.b = (⟨d.ep + 1, d.b⟩, 9) := by rw [Dsk.append, if_pos (.inr (by dsimp only; omega))]
                have ec : (⟨d.ep + 1, d.b⟩ : Dsk).cut o x.n = (⟨d.ep + 1, d.b⟩, 9) := by rw [Dsk.cut, if_pos (.inr (by dsimp only; omega))]
                have EA := Lib.hid ea; have EC := Lib.hid ec; clear ea ec
                have hst := (HST.out.alloc (.cells #[.int .i64 x.op, .int .i64 x.ep, .int .i64 x.n, .slice va x.b.length vc] 32)).drew
                have hxb := (BlockAt.new wr 32 [.int .i64 x.op, .int .i64 x.ep, .int .i64 x.n, .slice va x.b.length vc]).drew
                refine wp_region_lex (fun W => W.cell? ⟨wr.heap.size, 2, none⟩ = some (.int .i64 x.n) ∧ W.cell? ⟨wr.heap.size, 3, none⟩ = some (.slice va x.b.length vc)) [4, 9] (by kernel_rfl) (by kernel_rfl) ⟨hxb.cell 2 _ rfl, hxb.cell 3 _ rfl⟩ ?_
                repeat (first | (refine LexL.none (by rfl) ?_; (try simp only [Act.put, List.setIfInBounds_toArray, List.set_cons_zero, List.set_cons_succ])) | (refine LexL.still (v := ?_) (by rfl) ?_ ?_; rotate_left; (focus (intro W hW; (try dsimp only at hW); go_simp; (try (with_reducible rfl)); done)); (try simp only [Act.put, List.setIfInBounds_toArray, List.set_cons_zero, List.set_cons_succ])))
                have hyb := ((HM.out.keep hst.below).get HX.out).choose_spec.choose_spec.2.1
                rw [HV.out] at hyb
                refine LexL.call (f := 18) (args := #[.pointer (some ⟨b, 0, none⟩), .int .i64 o, .slice va x.b.length vc]) (w1 := (wr.alloc (.cells #[.int .i64 x.op, .int .i64 x.ep, .int .i64 x.n, .slice va x.b.length vc] 32)).drew) (by rfl) (by decide) (by go_simp) ?_
                refine (append_any b _ F _ _ x.b _ hst.at_ hst.ok hyb (by omega)).mono ?_
                intro e w6 hp
                obtain ⟨rfl, F6, hs6, hfr, hu6⟩ := hst.post hp (Dsk.append_ok hst.ok _ _)
                rw [EA.out] at hs6 ⊢
                have hxb6 := hxb.upd hu6 FAR.out
                refine ⟨_, rfl, ⟨hxb6.cell 2 _ rfl, hxb6.cell 3 _ rfl⟩, ?_⟩
                try simp only [Act.put, List.setIfInBounds_toArray, List.set_cons_zero, List.set_cons_succ]
                repeat (first | (refine LexL.none (by rfl) ?_; (try simp only [Act.put, List.setIfInBounds_toArray, List.set_cons_zero, List.set_cons_succ])) | (refine LexL.still (v := ?_) (by rfl) ?_ ?_; rotate_left; (focus (intro W hW; (try dsimp only at hW); go_simp; (try (with_reducible rfl)); done)); (try simp only [Act.put, List.setIfInBounds_toArray, List.set_cons_zero, List.set_cons_succ])))
                refine LexL.call (f := 20) (args := #[.pointer (some ⟨b, 0, none⟩), .int .i64 o, .int .i64 x.n]) (w1 := w6) (by rfl) (by decide) (by go_simp) ?_
                refine (cut_any b _ F6 _ _ _ hs6.at_ hs6.ok).mono ?_
                intro e w7 hp
                obtain ⟨rfl, F7, hs7, hfr7, hu7⟩ := hs6.post hp (Dsk.cut_ok hs6.ok _ _)
                rw [EC.out] at hs7 ⊢
                have hxb7 := hxb6.upd hu7 (fun hf => by
                  rcases hfr _ hf with h | h
                  · exact FAR.out h
                  · simp at h; omega)
                refine ⟨_, rfl, ⟨hxb7.cell 2 _ rfl, hxb7.cell 3 _ rfl⟩, ?_⟩
                try simp only [Act.put, List.setIfInBounds_toArray, List.set_cons_zero, List.set_cons_succ]
                repeat (first | (refine LexL.none (by rfl) ?_; (try simp only [Act.put, List.setIfInBounds_toArray, List.set_cons_zero, List.set_cons_succ])) | (refine LexL.still (v := ?_) (by rfl) ?_ ?_; rotate_left; (focus (intro W hW; (try dsimp only at hW); go_simp; (try (with_reducible rfl)); done)); (try simp only [Act.put, List.setIfInBounds_toArray, List.set_cons_zero, List.set_cons_succ])))
                refine LexL.done ?_
                have HS7 := Lib.hid hs7
                clear hs7 hs6 hu6 hfr hu7 hfr7 hxb6 hxb7 hyb hst hxb hp
                go_wp2_with fail
                refine (bytes_any b _ F7 _ HS7.out.at_ HS7.out.ok).mono ?_
                rintro e w8 ⟨v8, rfl, h8, hb8, _⟩
                have hz8 := run_string_bytes h8.bytes
                have HS8 := Lib.hid (HS7.out.new hb8)
                clear h8 hb8
                go_wp2_with fail
                refine (epoch_any b _ F7 _ HS8.out.at_).mono ?_
                rintro e w9 ⟨rfl, rfl⟩
                go_wp2
                go_roundw
                case rel => exact ⟨k + 1, _, by omega, by go_num, HS8.out⟩
                case measure => simp [intOf]; omega
              · obtain rfl : k = M.length := by omega
                have kc := fun (w : World) (C : Array Value) (n c : Nat) => Lib.run_convert_bytes_const (P := Try.prog) w 28 5 C n c Try.underlying28 Try.underlying5
                have ec : (⟨d.ep + 1, d.b⟩ : Dsk).cut (d.ep + 1) 0 = (⟨d.ep + 1, []⟩, 0) := by
                  rw [Dsk.cut, if_neg (by dsimp only; omega), if_neg (by dsimp only; omega)]
                  simp
                have ea : (⟨d.ep + 1, []⟩ : Dsk).append (d.ep + 1) [120] = (⟨d.ep + 1, [120]⟩, 0) := by
                  rw [Dsk.append, if_neg (by dsimp only; omega), if_neg (by simp)]
                  simp
                have EA := Lib.hid ea; have EC := Lib.hid ec; clear ea ec
                go_wp2_with fail
                refine (cut_st HST.out _ _).mono ?_
                rw [EC.out]
                rintro e w6 ⟨rfl, F6, hs6⟩
                have HS6 := Lib.hid hs6; clear hs6
                go_wp2_with fail
                refine (append_st (HS6.out.alloc _) _ _ [120] (bytesAt_const _ _ _ _ rfl (by simp)) (by simp)).mono ?_
                rw [EA.out]
                rintro e w7 ⟨rfl, F7, hs7⟩
                have HS7 := Lib.hid hs7; clear hs7
                go_wp2_with fail
                refine (bytes_any b _ F7 _ HS7.out.at_ HS7.out.ok).mono ?_
                rintro e w8 ⟨v8, rfl, h8, hb8, _⟩
                have hz8 := run_string_bytes h8.bytes
                rw [show strOf [120] = ⟨#[120]⟩ from rfl] at hz8
                have HS8 := Lib.hid (HS7.out.new hb8)
                clear h8 hb8
                go_wp2
                go_ret
                exact ⟨rfl, HS8.out.below⟩
end Go.Proofs.Ytfihmpkkpgmdhaa
