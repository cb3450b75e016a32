/-
  The package guild, walked: Node, Now, New, open.
-/
import Derived.Test.YtfihmpkkpgmdhacGuildA
namespace Go.Proofs.Ytfihmpkkpgmdhac
set_option linter.unusedSimpArgs false
set_option linter.unusedVariables false
open Go.RowKit
def gld (bg : Nat) (g : Gld) : HP := HP.ex fun x : Nat × (Nat → Value) => gblk bg x.1 x.2 g.now * (dsk x.1 g.d * nodes3 x.1 x.2 g.f)
theorem gld_open {bg : Nat} {g : Gld} {R : HP} {w : World} (h : Holds w (gld bg g * R)) : ∃ bd vs, Holds w (gblk bg bd vs g.now * (dsk bd g.d * (nodes3 bd vs g.f * R))) := by
  obtain ⟨⟨bd, vs⟩, h⟩ := HP.ex_mul h
  exact ⟨bd, vs, h.eq (by simp only [HP.assoc])⟩
theorem gld_close {bg bd : Nat} {vs : Nat → Value} {g : Gld} {R : HP} {w : World} (h : Holds w (gblk bg bd vs g.now * (dsk bd g.d * (nodes3 bd vs g.f * R)))) : Holds w (gld bg g * R) :=
  HP.mul_ex (A := fun x : Nat × (Nat → Value) => gblk bg x.1 x.2 g.now * (dsk x.1 g.d * nodes3 x.1 x.2 g.f)) (x := (bd, vs)) (h.eq (by simp only [HP.assoc]))
theorem gNew_sl (w : World) {R : HP} (h : Holds w R) : Calls Try.prog 10 #[] w (PostX w R (fun b : Nat => .pointer (some ⟨b, 0, none⟩)) fun b => gld b Gld.zero) := by
  have H := Lib.hid h; clear h
  go_enter Try.func10, Try.ntmps10
  go_wp2_with fail
  refine (dnew_sl _ H.out).mono ?_
  rintro e w1 ⟨bd, rfl, q1, h1⟩
  have H1 := Lib.hid (show Holds w1 (dsk bd Dsk.zero * R) from h1); have Q1 := Lib.hid q1; clear h1 q1
  go_wp2
  go_ret
  refine ⟨_, rfl, Q1.out.alloc _, gld_close (bd := bd) (vs := fun _ => .pointer none) (((H1.out.right.eq rfl |> fun _ => H1.out).boxB (ty := 49) (cs := gcells bd (fun _ => .pointer none) 0) rfl).imp (fun F h => h) |> fun h => ?_)⟩
  have h2 : Holds _ (gblk w1.heap.size bd (fun _ => .pointer none) 0 * (dsk bd Dsk.zero * R)) := h
  have h3 := (onod_mkNone (bd := bd) (onod_mkNone (bd := bd) (onod_mkNone (bd := bd) (h2.eq (by ac_rfl : _ = R * (gblk w1.heap.size bd (fun _ => .pointer none) 0 * dsk bd Dsk.zero))))))
  exact h3.eq (by unfold nodes3; simp only [Gld.zero]; ac_rfl)
theorem gNow_sl (bg bd : Nat) (vs : Nat → Value) (now : Int) (w : World) {R : HP} (h : Holds w (gblk bg bd vs now * R)) : Calls Try.prog 14 #[.pointer (some ⟨bg, 0, none⟩)] w fun e w' => e = .returned (.int .i64 now) ∧ w = w' := by
  have c := (show BlockAt w bg 49 (gcells bd vs now) from h.bl).cells
  simp only [gcells] at c
  clear h
  go_enter Try.func14, Try.ntmps14
  go_wp2
  go_ret
  exact ⟨rfl, rfl⟩
def gAt (vs : Nat → Value) (n : Int) : Value := if n < 0 ∨ 3 ≤ n then .pointer none else vs n.toNat
theorem gNode_sl (bg bd : Nat) (vs : Nat → Value) (now n : Int) (w : World) {R : HP} (h : Holds w (gblk bg bd vs now * R)) : Calls Try.prog 16 #[.pointer (some ⟨bg, 0, none⟩), .int .i64 n] w fun e w' => e = .returned (gAt vs n) ∧ w = w' := by
  have hb : BlockAt w bg 49 (gcells bd vs now) := h.bl
  clear h
  by_cases h0 : n < 0
  · have e : gAt vs n = .pointer none := by unfold gAt; rw [if_pos (.inl h0)]
    rw [e]; clear e hb
    go_enter Try.func16, Try.ntmps16
    go_wp2
    go_ret
    exact ⟨rfl, rfl⟩
  · by_cases h3 : 3 ≤ n
    · have e : gAt vs n = .pointer none := by unfold gAt; rw [if_pos (.inr h3)]
      rw [e]; clear e hb
      go_enter Try.func16, Try.ntmps16
      go_wp2
      go_ret
      exact ⟨rfl, rfl⟩
    · obtain ⟨k, rfl⟩ := Int.eq_ofNat_of_zero_le (show 0 ≤ n by omega)
      have hk : k < 3 := by omega
      have e : gAt vs k = vs k := by unfold gAt; rw [if_neg (by omega)]; rfl
      have ck := hb.cell _ _ (gcells_get bd vs now hk)
      obtain ⟨u, hu⟩ : ∃ u, vs k = u := ⟨_, rfl⟩
      rw [hu] at e ck
      rw [e]; clear e hb h0 h3 hu
      go_enter Try.func16, Try.ntmps16
      go_wp2
      go_ret
      exact ⟨rfl, rfl⟩
theorem gopen_bad (bg : Nat) (n : Int) (w : World) (h : n < 0 ∨ 3 ≤ n) : Calls Try.prog 32 #[.pointer (some ⟨bg, 0, none⟩), .int .i64 n] w fun e w' => e = .returned (.int .i64 3) ∧ w = w' := by
  rcases h with h | h
  · go_enter Try.func32, Try.ntmps32
    go_wp2
    go_ret
    exact ⟨rfl, rfl⟩
  · have h0 : ¬ n < 0 := by omega
    go_enter Try.func32, Try.ntmps32
    go_wp2
    go_ret
    exact ⟨rfl, rfl⟩
set_option maxRecDepth 100000 in
set_option maxHeartbeats 4000000 in
theorem gopen_full (bg bd : Nat) (vs : Nat → Value) (now : Int) (d : Dsk) (k : Nat) (w : World) {R : HP} (h : Holds w (gblk bg bd vs now * (dsk bd d * R))) (hk : k < 3) (hd : d.Ok) (hc : 100 ≤ d.ep) :
    Calls Try.prog 32 #[.pointer (some ⟨bg, 0, none⟩), .int .i64 k] w (Post w (dsk bd d * R) (.int .i64 8) (gblk bg bd vs now)) := by
  have c := (show BlockAt w bg 49 (gcells bd vs now) from h.bl).cell 0 _ rfl
  have H := Lib.hid h; have HD := Lib.hid hd; have HC := Lib.hid hc
  clear h hd hc
  go_enter Try.func32, Try.ntmps32
  go_wp2_with fail
  refine (nOpen_full bd d _ H.out.two HD.out HC.out).mono ?_
  rintro e w1 ⟨rfl, q1, h1⟩
  have H1 := Lib.hid h1; have Q1 := Lib.hid q1; clear h1 q1
  go_wp2
  go_ret
  exact ⟨rfl, Q1.out, H1.out.two⟩
set_option maxRecDepth 100000 in
set_option maxHeartbeats 4000000 in
theorem gopen_ok (bg bd : Nat) (vs : Nat → Value) (f : Nat → Option Nod) (now : Int) (d : Dsk) (k : Nat) (w : World) {R : HP} (h : Holds w (gblk bg bd vs now * (dsk bd d * (nodes3 bd vs f * R)))) (hk : k < 3) (hd : d.Ok) (hc : ¬ 100 ≤ d.ep) :
    Calls Try.prog 32 #[.pointer (some ⟨bg, 0, none⟩), .int .i64 k] w fun e w' => e = .returned (.int .i64 0) ∧ Quiet w w' ∧ ∃ vs' : Nat → Value, Holds w' (gblk bg bd vs' now * (dsk bd (opened d).1 * (nodes3 bd vs' (putN f k ⟨behind (found d), d.ep + 1, false⟩) * R))) := by
  have c := (show BlockAt w bg 49 (gcells bd vs now) from h.bl).cell 0 _ rfl
  have H := Lib.hid h; have HD := Lib.hid hd; have HC := Lib.hid hc
  clear h hd hc
  obtain ⟨d9, hd9⟩ : ∃ d9, (opened d).1 = d9 := ⟨_, rfl⟩
  obtain ⟨n9, hn9⟩ : ∃ n9 : Nod, ⟨behind (found d), d.ep + 1, false⟩ = n9 := ⟨_, rfl⟩
  rw [hd9, hn9]
  have HD9 := Lib.hid hd9; have HN9 := Lib.hid hn9
  clear hd9 hn9
  go_enter Try.func32, Try.ntmps32
  go_wp2_with fail
  refine (nOpen_sl bd d _ H.out.two HD.out (by have := HC.out; omega)).mono ?_
  rw [HD9.out, HN9.out]
  rintro e w1 ⟨bn, rfl, q1, h1⟩
  have h2 : Holds w1 (gblk bg bd vs now * (nod bn bd n9 * (dsk bd d9 * (nodes3 bd vs f * R)))) := (show Holds w1 (nod bn bd n9 * (dsk bd d9 * (gblk bg bd vs now * (nodes3 bd vs f * R)))) from h1).eq (by ac_rfl)
  have hb : BlockAt w1 bg 49 (gcells bd vs now) := h2.bl
  have ck := hb.cell _ _ (gcells_get bd vs now hk)
  have fk := hb.frees
  have H2 := Lib.hid h2; have Q1 := Lib.hid q1; clear h1 q1 h2 hb c H
  go_wp2
  go_ret
  refine ⟨rfl, Q1.out.setCell _ _, updV vs k (.pointer (some ⟨bn, 0, none⟩)), ?_⟩
  have h3 := H2.out.setB (1 + k) (.pointer (some ⟨bn, 0, none⟩))
  rw [gcells_set _ _ _ hk] at h3
  rw [nodes3_put _ _ _ hk]
  have h4 := (onod_mk ((h3.eq (by rw [nodes3_pick _ _ _ hk]; ac_rfl : _ = onod (vs k) bd (f k) * (nod bn bd n9 * (bl bg 49 (gcells bd (updV vs k (.pointer (some ⟨bn, 0, none⟩))) now) * (dsk bd d9 * (nrest bd vs f k * R)))))).right))
  exact h4.eq (by unfold gblk; ac_rfl)
end Go.Proofs.Ytfihmpkkpgmdhac
