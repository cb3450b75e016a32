/-
  The reference's bytes of a record.
-/
import Derived.Test.YtfihmpkkpgmdhabCodec1
namespace Go.Proofs.Ytfihmpkkpgmdhab
set_option maxRecDepth 100000
set_option linter.unusedSimpArgs false
set_option linter.unusedVariables false
open Go.RowKit

theorem iv_u8 {n : Int} (h0 : 0 ≤ n) (h1 : n ≤ 255) : Value.int .i64 ((u8 n).toNat : Int) = .int .i64 n := by
  unfold u8
  rw [UInt8.toNat_ofNat']
  congr 1
  omega
theorem encH_ints {r : Rec} (h : chkR r = 0) : (encH r).map (fun y => Value.int .i64 (y.toNat : Int)) = [.int .i64 r.ep, .int .i64 r.o.kind, .int .i64 (r.o.now / 256), .int .i64 (r.o.now % 256), .int .i64 r.o.job, .int .i64 r.o.tr, .int .i64 r.o.wk, .int .i64 r.o.tm] := by
  obtain ⟨p0, p1, hc⟩ := chkR_zero h
  obtain ⟨b0, b1, b2, b3, b4, b5, b6, b7, b8, b9, b10, b11⟩ := chk_bounds hc
  simp only [encH, List.map_cons, List.map_nil]
  rw [iv_u8 (by omega) (by omega), iv_u8 (by omega) (by omega), iv_u8 (by omega) (by omega), iv_u8 (by omega) (by omega), iv_u8 (by omega) (by omega), iv_u8 (by omega) (by omega), iv_u8 (by omega) (by omega), iv_u8 (by omega) (by omega)]

/-- What BytesOf leaves. -/
def BofPost (w : World) (r : Rec) (e : Ending) (w' : World) : Prop :=
  ∃ v, e = .returned v ∧ OwnB w' v (encB r) ∧ Below w.heap.size w w' ∧ ∀ k, v.ownBlock = some k → w.heap.size ≤ k
set_option maxRecDepth 100000 in
set_option maxHeartbeats 2000000 in
theorem bytesof_any (p c n j t k m : Int) (w : World) (h0 : chkR ⟨p, ⟨c, n, j, t, k, m⟩⟩ = 0) :
    Calls Try.prog 85 #[.agg #[.int .i64 p, .int .i64 c, .int .i64 n, .int .i64 j, .int .i64 t, .int .i64 k, .int .i64 m]] w (BofPost w ⟨p, ⟨c, n, j, t, k, m⟩⟩) := by
  obtain ⟨p0, p1, hc⟩ := chkR_zero h0
  obtain ⟨b0, b1, b2, b3, b4, b5, b6, b7, b8, b9, b10, b11⟩ := chk_bounds hc
  dsimp only at *
  have hi := encH_ints h0
  dsimp only at hi
  generalize hL : encH ⟨p, ⟨c, n, j, t, k, m⟩⟩ = L at *
  have hlen : L.length = 8 := by rw [← hL]; rfl
  have HL := Lib.hid hL; have H0 := Lib.hid h0; have HI := Lib.hid hi
  clear h0 hc hL hi
  obtain ⟨i0, hi, hz0, hz1, hz2⟩ := info_parts Try.infoU8
  go_enter Try.func85, Try.ntmps85
  go_wp2_with fail
  generalize hB : w.heap.size + 1 + 1 = B
  go_loopw [6, 5] (fun i v wr => ∃ q : Nat, q ≤ 8 ∧ i = .int .i64 q ∧ OwnB wr v (L.take q) ∧ BlockAt wr B 3 (L.map (fun y => Value.int .i64 (y.toNat : Int))) ∧ Below w.heap.size w wr ∧ (∀ k, v.ownBlock = some k → B < k)) (fun i _ _ => 8 - (intOf i).toNat)
  case atStart =>
    refine ⟨0, by omega, rfl, OwnB.nil _, ?_, ?_, by simp [Value.ownBlock]⟩
    · rw [HI.out, ← hB]
      have := BlockAt.new ((w.alloc (.cells #[.int .i64 p, .int .i64 c, .int .i64 n, .int .i64 j, .int .i64 t, .int .i64 k, .int .i64 m] 48)).alloc (.cells #[.int .i64 c, .int .i64 n, .int .i64 j, .int .i64 t, .int .i64 k, .int .i64 m] 35)) 3 [.int .i64 p, .int .i64 c, .int .i64 (n / 256), .int .i64 (n % 256), .int .i64 j, .int .i64 t, .int .i64 k, .int .i64 m]
      rw [World.size_alloc, World.size_alloc] at this
      exact this
    · exact (((Below.refl w.heap.size w).alloc (Nat.le_refl _) _).alloc (by simp) _).alloc (by simp; omega) _
  case round =>
    obtain ⟨q, hq, rfl, ho, hblk, hbw, hfr⟩ := hrel
    by_cases hlt : q < 8
    · have hx : (L.map (fun y => Value.int .i64 (y.toNat : Int)))[q]? = some (.int .i64 ((L.getD q 0).toNat : Int)) := by simp [hlen, hlt]
      have hcell := hblk.cell q _ hx
      have hBlt := hblk.lt
      have hy : IntKind.u8.wrap ((L.getD q 0).toNat : Int) = ((L.getD q 0).toNat : Int) := by
        have := (L.getD q 0).toNat_lt
        show ((L.getD q 0).toNat : Int) % 2 ^ 8 = _
        omega
      have hn := (own_new wr [.int .u8 ((L.getD q 0).toNat : Int)] [L.getD q 0] rfl (by simp)).bytes
      have ho2 := ho.upd (Upd.alloc (F := fun _ => False) (Upd.refl _ _) (.cells #[.int .u8 ((L.getD q 0).toNat : Int)] 5)) (fun _ _ h => h)
      have hT : L.take (q + 1) = L.take q ++ [L.getD q 0] := by
        rw [List.take_succ_eq_append_getElem (by omega)]
        simp [hlen, hlt]
      have HO2 := Lib.hid ho2; have HN := Lib.hid hn; have HBK := Lib.hid hblk; have HBW := Lib.hid hbw; have HFR := Lib.hid hfr; have HT := Lib.hid hT
      clear ho2 hn hblk hbw hfr hT hx ho
      generalize L.getD q 0 = y at *
      have hq8 : (q : Int) < 8 := by omega
      go_wp2_with (at_builtin; refine wpList_append_bytes (l := L.take q) (m := [y]) rfl _ _ 44 rfl 5 i0 Try.underlying44 hi hz0 hz1 hz2 rfl rfl rfl HO2.out HN.out (by simp; omega) ?_; intro v' w' hv' hu hfr')
      have hu' := Upd.mono (G := fun k => B < k) hu (fun k hk => HFR.out k hk)
      go_round
      case rel =>
        refine ⟨q + 1, by omega, by go_num, by rw [HT.out]; exact hv', ((HBK.out.alloc _).upd hu' (by omega)), (HBW.out.alloc HBW.out.size _).trans (hu'.below ?_ fun k hk => ?_), fun k hk => ?_⟩
        · have := HBW.out.size
          simp; omega
        · omega
        · rcases hfr' k hk with h | h
          · exact HFR.out k h
          · simp at h; omega
      case measure => simp [intOf]; omega
    · obtain rfl : q = 8 := by omega
      rw [List.take_of_length_le (by omega)] at ho
      have HO := Lib.hid ho; have HBW := Lib.hid hbw; have HFR := Lib.hid hfr; have hBlt := hblk.lt
      clear ho hblk hbw hfr
      go_wp2_with fail
      refine (rsum_any _ _ _ HO.out.bytes (by omega)).mono ?_
      rintro e w2 ⟨rfl, rfl⟩
      generalize hs : csum L = s
      have HS := Lib.hid hs; clear hs
      have ho2 := HO.out.upd (Upd.alloc (F := fun _ => False) (Upd.refl _ _) (.cells #[.int .u8 (s.toNat : Int)] 5)) (fun _ _ h => h)
      have hn2 := (own_new wr [.int .u8 (s.toNat : Int)] [s] rfl (by simp)).bytes
      have HO2 := Lib.hid ho2; have HN2 := Lib.hid hn2; clear ho2 hn2
      go_wp2_with (at_builtin; refine wpList_append_bytes (l := L) (m := [s]) rfl _ _ 44 rfl 5 i0 Try.underlying44 hi hz0 hz1 hz2 rfl rfl rfl HO2.out HN2.out (by simp; omega) ?_; intro v' w' hv' hu hfr')
      go_ret
      have hu' := Upd.mono (G := fun k => B < k) hu (fun k hk => HFR.out k hk)
      refine ⟨v', rfl, ?_, (HBW.out.alloc HBW.out.size _).trans (hu'.below ?_ fun k hk => ?_), fun k hk => ?_⟩
      · rw [encB, HL.out, HS.out]; exact hv'
      · have := HBW.out.size
        simp; omega
      · omega
      · rcases hfr' k hk with h | h
        · have := HFR.out k h; omega
        · simp at h; omega
end Go.Proofs.Ytfihmpkkpgmdhab

