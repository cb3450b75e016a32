/-
  A plate whose slice is named.
-/
import Derived.Test.YtfihmpkkpgmdhacVergM
namespace Go.Proofs.Ytfihmpkkpgmdhac
set_option linter.unusedSimpArgs false
set_option linter.unusedVariables false
open Go.RowKit
/-- A plate whose bytes stand in the slice v. -/
def pltw (v : Value) (b : Nat) (ty : TypeId) (rest : List Value) (d : Dsk) : HP where
  on F w := ty ≠ 5 ∧ BlockAt w b ty (.int .i64 d.ep :: v :: rest) ∧ OwnB w v d.b ∧ F = fun k => k = b ∨ v.ownBlock = some k
  lt := fun ⟨ht, hb, hv, hF⟩ k hk => PlateAt.inW (d := d) (rest := rest) ⟨ht, v, hb, hv, hF⟩ k hk
  keep := by
    rintro F w w' ⟨ht, hb, hv, rfl⟩ hk
    refine ⟨ht, by unfold BlockAt at *; rw [hk b (.inl rfl)]; exact hb, ?_, rfl⟩
    exact ((ownb v d.b).keep (F := fun k => v.ownBlock = some k) ⟨hv, rfl⟩ fun k h => hk k (.inr h)).1
theorem plw_ex (b : Nat) (ty : TypeId) (rest : List Value) (d : Dsk) : plt b ty rest d = HP.ex fun v => pltw v b ty rest d := HP.ext' fun F w =>
  ⟨fun h => by obtain ⟨ht, v, hb, hv, hF⟩ := h; exact ⟨v, ht, hb, hv, hF⟩, fun h => by obtain ⟨v, ht, hb, hv, hF⟩ := h; exact ⟨ht, v, hb, hv, hF⟩⟩
theorem plw_open {b : Nat} {ty : TypeId} {rest : List Value} {d : Dsk} {w : World} {R : HP} (h : Holds w (plt b ty rest d * R)) : ∃ v, Holds w (pltw v b ty rest d * R) := by
  rw [plw_ex] at h
  exact HP.ex_mul h
theorem plw_close {v : Value} {b : Nat} {ty : TypeId} {rest : List Value} {d : Dsk} {w : World} {R : HP} (h : Holds w (pltw v b ty rest d * R)) : Holds w (plt b ty rest d * R) := by
  rw [plw_ex]
  exact HP.mul_ex (A := fun v => pltw v b ty rest d) h
theorem plw_bl {v : Value} {b : Nat} {ty : TypeId} {rest : List Value} {d : Dsk} {w : World} {R : HP} (h : Holds w (pltw v b ty rest d * R)) : BlockAt w b ty (.int .i64 d.ep :: v :: rest) ∧ BytesAt w v d.b := by
  obtain ⟨F, _, hb, hv, _⟩ := h.left
  exact ⟨hb, hv.bytes⟩
end Go.Proofs.Ytfihmpkkpgmdhac
