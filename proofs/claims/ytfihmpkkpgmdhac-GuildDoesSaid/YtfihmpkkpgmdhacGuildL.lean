/-
  What the laws on guilds share: the law's beginning; the steps that come in.
-/
import Derived.Test.YtfihmpkkpgmdhacGuildD
namespace Go.Proofs.Ytfihmpkkpgmdhac
set_option linter.unusedSimpArgs false
set_option linter.unusedVariables false
open Go.RowKit
def Gld.Good (g : Gld) : Prop := ∃ l, g.Ok l
theorem good_zero : Gld.zero.Good := ⟨[], Gld.zero_ok⟩
theorem good_step {g : Gld} (h : g.Good) (x : Stp) : (g.step x).1.Good := by
  obtain ⟨l, h⟩ := h
  obtain ⟨l', h'⟩ := step_ok h x
  exact ⟨l', h'.ok⟩
theorem gstep_sl (bg : Nat) (g : Gld) (kd x kp c nw j r k m : Int) (w : World) {R : HP} (h : Holds w (gld bg g * R)) (hg : g.Good) :
    Calls Try.prog 11 #[.pointer (some ⟨bg, 0, none⟩), .agg #[.int .i64 kd, .int .i64 x, .int .i64 kp, .int .i64 c, .int .i64 nw, .int .i64 j, .int .i64 r, .int .i64 k, .int .i64 m]] w (GPost w bg R (g.step ⟨kd, x, kp, ⟨c, nw, j, r, k, m⟩⟩)) := by
  obtain ⟨l, hg⟩ := hg
  exact gStep_sl bg g kd x kp c nw j r k m l w h hg
def gz1 : Gld := (Gld.zero.step ⟨1, 1, 0, ⟨0, 0, 0, 0, 0, 0⟩⟩).1
def gz2 : Gld := (gz1.step ⟨2, 1, 0, ⟨1, 7, 4, 0, 0, 0⟩⟩).1
def gz3 : Gld := (gz2.step ⟨5, 9, 0, ⟨0, 0, 0, 0, 0, 0⟩⟩).1
def gz4 : Gld := (gz3.step ⟨1, 2, 0, ⟨0, 0, 0, 0, 0, 0⟩⟩).1
def gz5 : Gld := (gz4.step ⟨2, 2, 0, ⟨2, 0, 0, 0, 1, 3⟩⟩).1
def gz6 : Gld := (gz5.step ⟨2, 1, 0, ⟨2, 0, 0, 0, 2, 3⟩⟩).1
theorem gz1_e : Gld.zero.step ⟨1, 1, 0, ⟨0, 0, 0, 0, 0, 0⟩⟩ = (gz1, ⟨0, 0, 0⟩) := Prod.ext rfl (by kernel_rfl)
theorem gz2_e : gz1.step ⟨2, 1, 0, ⟨1, 7, 4, 0, 0, 0⟩⟩ = (gz2, ⟨0, 0, 0⟩) := Prod.ext rfl (by kernel_rfl)
theorem gz3_e : gz2.step ⟨5, 9, 0, ⟨0, 0, 0, 0, 0, 0⟩⟩ = (gz3, ⟨0, 0, 0⟩) := Prod.ext rfl (by kernel_rfl)
theorem gz4_e : gz3.step ⟨1, 2, 0, ⟨0, 0, 0, 0, 0, 0⟩⟩ = (gz4, ⟨0, 0, 0⟩) := Prod.ext rfl (by kernel_rfl)
theorem gz5_e : gz4.step ⟨2, 2, 0, ⟨2, 0, 0, 0, 1, 3⟩⟩ = (gz5, ⟨0, 4, 1⟩) := Prod.ext rfl (by kernel_rfl)
theorem gz6_e : gz5.step ⟨2, 1, 0, ⟨2, 0, 0, 0, 2, 3⟩⟩ = (gz6, ⟨9, 0, 0⟩) := Prod.ext rfl (by kernel_rfl)
theorem gz1_ok : gz1.Good := good_step good_zero _
theorem gz2_ok : gz2.Good := good_step gz1_ok _
theorem gz3_ok : gz3.Good := good_step gz2_ok _
theorem gz4_ok : gz4.Good := good_step gz3_ok _
theorem gz5_ok : gz5.Good := good_step gz4_ok _
theorem gz6_ok : gz6.Good := good_step gz5_ok _
theorem gz6_ep : gz6.d.ep = 2 := by kernel_rfl
theorem gz6_now : gz6.now = 9 := by kernel_rfl
theorem gz6_len : gz6.d.b.length = 18 := by kernel_rfl
theorem gz6_f0 : gz6.f 0 = none := by kernel_rfl
theorem gz6_f2 : (gz6.f 2).map (fun n => n.t.job 4) = some ⟨2, 1, 1, 12⟩ := by kernel_rfl
theorem gz6_n : ∃ n, gz6.f 2 = some n ∧ n.t.job 4 = ⟨2, 1, 1, 12⟩ := by
  have h := gz6_f2
  cases hf : gz6.f 2 with
  | none => rw [hf] at h; cases h
  | some n => rw [hf] at h; exact ⟨n, rfl, by simpa using h⟩
theorem pick_some {w : World} {A B R : HP} {bd : Nat} {vs : Nat → Value} {f : Nat → Option Nod} {i : Nat} {n : Nod} (h : Holds w (A * (B * (nodes3 bd vs f * R)))) (hi : i < 3) (hf : f i = some n) : ∃ bn : Nat, vs i = .pointer (some ⟨bn, 0, none⟩) ∧ Holds w (nod bn bd n * (A * (B * (nrest bd vs f i * R)))) := by
  have h8 := h.eq (by rw [nodes3_pick bd vs f hi, hf]; ac_rfl : _ = onod (vs i) bd (some n) * (A * (B * (nrest bd vs f i * R))))
  exact onod_some h8
theorem pick_none {w : World} {A B R : HP} {bd : Nat} {vs : Nat → Value} {f : Nat → Option Nod} {i : Nat} (h : Holds w (A * (B * (nodes3 bd vs f * R)))) (hi : i < 3) (hf : f i = none) : vs i = .pointer none := by
  have h8 := h.eq (by rw [nodes3_pick bd vs f hi, hf]; ac_rfl : _ = onod (vs i) bd none * (A * (B * (nrest bd vs f i * R))))
  exact (onod_none h8).1
end Go.Proofs.Ytfihmpkkpgmdhac
