/-
  An unsigned rest of an int, as Go reckons it.
-/
import Derived.RowKit
namespace Go.Proofs.Ytfihmpkkpgmdhab
open Go.RowKit
theorem uidx (a : Int) (n : Nat) (h0 : 0 < n) (h1 : n ≤ 1000000) : ∃ K : Nat, K < n ∧ wrap64 ((IntKind.u64.wrap a).tmod n) = K := by
  have hw : IntKind.u64.wrap a = a % 18446744073709551616 := by simp [IntKind.wrap, IntKind.bits, IntKind.signed]
  have h2 : 0 ≤ IntKind.u64.wrap a := by rw [hw]; omega
  obtain ⟨m, hm⟩ := Int.eq_ofNat_of_zero_le h2
  refine ⟨m % n, Nat.mod_lt _ h0, ?_⟩
  rw [hm]
  have : ((m : Int)).tmod (n : Int) = ((m % n : Nat) : Int) := by
    rw [Int.tmod_eq_emod_of_nonneg (by omega)]; rfl
  rw [this]
  have hl := Nat.mod_lt m h0
  unfold wrap64
  omega
theorem uidx' (a : Int) (M : Nat) (h1 : M ≤ 100000) : ∃ K : Nat, K ≤ M ∧ wrap64 ((IntKind.u64.wrap a).tmod (IntKind.u64.wrap (wrap64 ((M : Int) + 1)))) = K := by
  obtain ⟨K, hK, h⟩ := uidx a (M + 1) (by omega) (by omega)
  have hw : ∀ n : Int, IntKind.u64.wrap n = n % 18446744073709551616 := fun n => by simp [IntKind.wrap, IntKind.bits, IntKind.signed]
  have e1 : wrap64 ((M : Int) + 1) = (M : Int) + 1 := by unfold wrap64; omega
  have e2 : IntKind.u64.wrap ((M : Int) + 1) = ((M + 1 : Nat) : Int) := by rw [hw]; omega
  exact ⟨K, by omega, by rw [e1, e2]; exact h⟩
end Go.Proofs.Ytfihmpkkpgmdhab
