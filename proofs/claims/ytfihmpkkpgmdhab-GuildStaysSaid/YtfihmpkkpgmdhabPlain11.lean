/-
  Plain laws: how Open drops records from behind; how the guild's nodes stand.
-/
import Derived.Test.YtfihmpkkpgmdhabPlain10
namespace Go.Proofs.Ytfihmpkkpgmdhab
set_option linter.unusedVariables false
theorem take_pred {L : List Rec} {k : Nat} {r : Rec} (h0 : 0 < k) (h : L[k - 1]? = some r) : L.take k = L.take (k - 1) ++ [r] := by
  obtain ⟨q, rfl⟩ : ∃ q, k = q + 1 := ⟨k - 1, by omega⟩
  simp only [Nat.add_sub_cancel] at h ⊢
  have hl := (List.getElem?_eq_some_iff.1 h).1
  rw [List.take_succ_eq_append_getElem hl]
  rw [(List.getElem?_eq_some_iff.1 h).2]
theorem untilE_step {e : Int} {L : List Rec} {k : Nat} {r : Rec} (hR : Rising 0 L) (h : untilE e L = untilE e (L.take k)) (h0 : 0 < k) (hr : L[k - 1]? = some r) (he : e < r.ep) : untilE e L = untilE e (L.take (k - 1)) := by
  have hk := take_pred h0 hr
  rw [h, hk]
  have := hR.take k
  rw [hk] at this
  exact untilE_snoc this he
theorem untilE_end {e : Int} {L : List Rec} {k : Nat} (hR : Rising 0 L) (h : untilE e L = untilE e (L.take k)) (hk : k = 0 ∨ 0 < k ∧ ∃ r, L[k - 1]? = some r ∧ r.ep ≤ e) : untilE e L = L.take k := by
  rw [h]
  refine untilE_all fun q hq => ?_
  rcases hk with rfl | ⟨h0, r, hr, he⟩
  · simp at hq
  · have hl := ((hR.take k).le_last).2 q hq
    rw [take_pred h0 hr, lastE_snoc] at hl
    omega
theorem runL_step {L : List Rec} {i : Nat} {r : Rec} (h : L[i]? = some r) (t : Tbl) : runL t (L.take (i + 1)) = ((runL t (L.take i)).did r.o).1 := by
  have hl := (List.getElem?_eq_some_iff.1 h).1
  rw [List.take_succ_eq_append_getElem hl, runL_append, (List.getElem?_eq_some_iff.1 h).2]
  rfl
end Go.Proofs.Ytfihmpkkpgmdhab
