/-
  CodecTurn, walked: one byte turned is seen.
-/
import Derived.Test.YtfihmpkkpgmdhaaCodecS
import Derived.Test.YtfihmpkkpgmdhaaPlain7
import Derived.Test.YtfihmpkkpgmdhaaView2
import Derived.Test.YtfihmpkkpgmdhaaUidx
namespace Go.Proofs.Ytfihmpkkpgmdhaa
set_option linter.unusedSimpArgs false
set_option linter.unusedVariables false
open Go.RowKit
theorem tmod_ne {a : Int} (h : a.tmod 251 ≠ 0) : a % 251 ≠ 0 := fun e => h (Int.tmod_eq_zero_of_dvd (Int.dvd_of_emod_eq_zero e))
theorem OwnB.get {w : World} {v : Value} {l : List UInt8} (h : OwnB w v l) (h0 : l.length ≠ 0) : ∃ g cap cur, v = .slice (some ⟨g, 0, none⟩) l.length cap ∧ BlockAt w g 5 cur ∧ l.length ≤ cap ∧ cap ≤ 9223372036854775807 ∧ cap ≤ cur.length ∧ cur.take l.length = bvs l := by
  rcases h with ⟨_, rfl⟩ | ⟨g, cap, cur, rfl, hb, h1, h2, h3, h4⟩
  · exact absurd rfl h0
  · exact ⟨g, cap, cur, rfl, hb, h1, by unfold maxLen at h3; omega, h2, h4⟩
theorem Holds.setOb {w : World} {g n cap : Nat} {l : List UInt8} {A : HP} (h : Holds w (Go.Proofs.Ytfihmpkkpgmdhaa.ownb (.slice (some ⟨g, 0, none⟩) n cap) l * A)) {k : Nat} (hk : k < l.length) (x : UInt8) : Holds (w.setCell ⟨g, k, none⟩ (bv x)) (Go.Proofs.Ytfihmpkkpgmdhaa.ownb (.slice (some ⟨g, 0, none⟩) n cap) (l.set k x) * A) := by
  obtain ⟨F, ⟨hb, rfl⟩, hn⟩ := h.open
  refine hn _ _ _ ⟨?_, rfl⟩ (Upd.setCell (F := fun q => (Value.slice (some ⟨g, 0, none⟩) n cap).ownBlock = some q) (p := ⟨g, k, none⟩) (Upd.refl _ w) (.inl rfl) (bv x)) (From.refl _ _)
  obtain ⟨g', cap', cur, e, hb', h1, h2, h3, h4⟩ := hb.get (by omega)
  simp only [Value.slice.injEq, Option.some.injEq, Addr.mk.injEq, and_true] at e
  obtain ⟨rfl, rfl, rfl⟩ := e
  refine .inr ⟨g, cap, cur.set k (bv x), by simp, hb'.set k _, by simpa using h1, by simpa using h3, by unfold maxLen; omega, ?_⟩
  rw [List.length_set, List.take_set, h4]
  simp [bvs, List.map_set]
set_option maxRecDepth 100000 in
set_option maxHeartbeats 8000000 in
theorem codecTurn_any (p c n j t k m : Int) (at_ x : Int) (w : World) (ha : I64' at_) (hx : 0 ≤ x ∧ x ≤ 255) :
    Calls Try.prog 8 #[.agg #[.int .i64 p, .int .i64 c, .int .i64 n, .int .i64 j, .int .i64 t, .int .i64 k, .int .i64 m], .int .i64 at_, .int .u8 x] w fun e w' => e = .returned (.bool true) ∧ Below w.heap.size w w' := by
  obtain ⟨K, hK9, hK⟩ := uidx at_ 9 (by omega) (by omega)
  have hK' : wrap64 ((IntKind.u64.wrap at_).tmod 9) = (K : Int) := hK
  clear hK
  obtain ⟨xb, rfl⟩ : ∃ b : UInt8, x = (b.toNat : Int) := ⟨UInt8.ofNat x.toNat, by rw [UInt8.toNat_ofNat']; omega⟩
  have hx1 := hx.2
  go_enter Try.func8, Try.ntmps8
  go_wp2_with fail
  refine (codecBegun_any _).mono ?_
  rintro e w1 ⟨rfl, hb1⟩
  have H1 := Lib.hid ((Holds.old.boxB (ty := 44) (cs := rcells ⟨p, ⟨c, n, j, t, k, m⟩⟩) rfl).below hb1)
  have Q1 := Lib.hid (((Quiet.refl w).alloc _).trans (Quiet.below hb1)); clear hb1
  have x0 := H1.out.bl.cells
  have l0 := H1.out.bl.lt
  simp only [rcells] at x0
  obtain ⟨C, hC⟩ : ∃ C, chkR ⟨p, ⟨c, n, j, t, k, m⟩⟩ = C := ⟨_, rfl⟩
  have HC := Lib.hid hC; clear hC
  have HX := Lib.hid hx; have HA := Lib.hid ha; clear hx ha
  go_wp2_with fail
  refine (enc_sl p c n j t k m _ H1.out).mono ?_
  rw [HC.out]
  by_cases h0 : C = 0
  · subst h0
    have h9 := encB_len ⟨p, ⟨c, n, j, t, k, m⟩⟩
    obtain ⟨X, hX⟩ : ∃ X, encB ⟨p, ⟨c, n, j, t, k, m⟩⟩ = X := ⟨_, rfl⟩
    have HE := Lib.hid hX
    rw [hX] at h9
    rw [if_pos rfl, hX]
    rintro e w2 ⟨v2, rfl, q2, h2⟩
    obtain ⟨g, cap, cur, rfl, hbl, e1, e2, e3, e4⟩ := h2.ownb.get (by omega)
    have hf := hbl.frees
    obtain ⟨y, hy⟩ : ∃ y, X[K]? = some y := ⟨_, List.getElem?_eq_getElem (by rw [h9]; exact hK9)⟩
    have hcell := hbl.cell K (.int .u8 y.toNat) (by have := congrArg (fun q : List Value => q[K]?) e4; simp only [List.getElem?_take, h9, hK9, if_true] at this; rw [this]; simp [bvs, bv, hy])
    have hyl : (y.toNat : Int) ≤ 255 := by have := y.toNat_lt; omega
    have glt := hbl.lt
    rw [h9] at h2 e1 ⊢
    have HY := Lib.hid hy
    clear hbl e4 hy
    have H2 := Lib.hid h2; have Q2 := Lib.hid q2; clear h2 q2 hX x0 l0
    have H9 := Lib.hid h9; clear h9
    by_cases hd : ((xb.toNat : Int) - (y.toNat : Int)).tmod 251 = 0
    · have hd' : (((xb.toNat : Int) - (y.toNat : Int)).tmod 251 == 0) = true := by simpa using hd
      clear hd
      go_wp2
      go_ret
      exact ⟨rfl, H2.out.right.right.toBelow' (Q1.out.trans Q2.out)⟩
    · have hd' : (((xb.toNat : Int) - (y.toNat : Int)).tmod 251 == 0) = false := by simpa using hd
      have HD := Lib.hid hd; clear hd
      go_wp2_with fail
      have h3 := H2.out.setOb (k := K) (by rw [H9.out]; exact hK9) xb
      refine (decode_any _ _ _ h3.ownb.bytes).mono ?_
      rw [← HE.out, decB_turn HC.out K hK9 xb (by rw [HE.out]; have := tmod_ne HD.out; simpa [List.getD, HY.out] using this)]
      rintro e w3 ⟨rfl, hb3⟩
      have H3 := Lib.hid (h3.below hb3); have Q3 := Lib.hid (Quiet.below hb3); clear h3 hb3
      go_wp2
      go_ret
      exact ⟨rfl, (H3.out.alloc _).right.right.toBelow' (((Q1.out.trans Q2.out).setCell _ _).trans Q3.out |>.alloc _)⟩
  · have h0' : (C != 0) = true := by simpa using h0
    have H0 := Lib.hid h0
    rw [if_neg h0]
    rintro e w2 ⟨v2, rfl, q2, h2⟩
    obtain ⟨a, cap, rfl, e1, e2⟩ := h2.ownb.bytes.shape
    rw [List.length_nil] at *
    have H2 := Lib.hid h2; have Q2 := Lib.hid q2; clear h2 q2 h0
    go_wp2
    go_ret
    exact ⟨rfl, H2.out.right.right.toBelow' (Q1.out.trans Q2.out)⟩
end Go.Proofs.Ytfihmpkkpgmdhaa
