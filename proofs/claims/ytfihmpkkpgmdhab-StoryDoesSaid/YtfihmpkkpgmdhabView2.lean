/-
  What comes in, as a walk wants it: structs of integers, and slices of them, out of the reading of an argument.
-/
import Derived.Test.YtfihmpkkpgmdhabView
import Derived.Test.YtfihmpkkpgmdhabSlices
namespace Go.Proofs.Ytfihmpkkpgmdhab
set_option linter.unusedSimpArgs false
set_option linter.unusedVariables false
open Go.RowKit Go.ChangeShapes Go.WideShapes Go.Deep

/-- Nothing but integers, cell by cell. -/
def flat (P : Program) : Nat → TypeId → Bool
  | 0, _ => false
  | d + 1, t => match P.underlying t with
    | some (.int .i64) => true
    | some (.struct fs) => fs.all (fun f => flat P d f.type) && (List.range (P.cellsOf t)).all fun i => fs.any fun f => decide (f.offset ≤ i) && decide (i < f.offset + P.cellsOf f.type)
    | _ => false
/-- Of an int. -/
def I64' (n : Int) : Prop := -9223372036854775808 ≤ n ∧ n ≤ 9223372036854775807
theorem i64'_of {n : Int} (h : (Lit.int .i64 n).wf = true) : I64' n := by
  have := bounds_i64 h
  unfold I64'
  omega
def ivs (z : List Int) : List Value := z.map (.int .i64)
section
variable {H : Type} {enc : TypeId × Value → H} {P : Program} {w : World} {base : Nat} {spare : Nat → Bool} {held : Bool}
theorem flat_ints : ∀ (d : Nat) (t : TypeId), flat P d t = true → ∀ {fuel : Nat} {cs : List Value} {x : DataW H × List MemPlace}, DataW.trod enc P w base spare held fuel t cs = some x → ∀ v ∈ cs, ∃ n, v = .int .i64 n ∧ I64' n := by
  intro d
  induction d with
  | zero => intro t h; simp [flat] at h
  | succ d ih =>
    intro t h fuel cs x hx v hv
    unfold flat at h
    split at h
    · rename_i ht
      obtain ⟨n, rfl, _, hw⟩ := DataW.trod_int ht hx
      simp at hv
      subst hv
      exact ⟨n, rfl, i64'_of hw⟩
    · rename_i fs ht
      simp only [Bool.and_eq_true, Array.all_eq_true_iff_forall_mem, List.all_eq_true, List.mem_range, Array.any_eq_true, decide_eq_true_eq] at h
      obtain ⟨h1, h2⟩ := h
      obtain ⟨xs, n, _, _, hl, hxl, hf⟩ := DataW.trod_struct ht hx
      obtain ⟨i, hi, rfl⟩ := List.mem_iff_getElem.1 hv
      obtain ⟨j, hj, h3, h4⟩ := h2 i (by omega)
      have hxj : xs[j]? = some (xs[j]'(by omega)) := List.getElem?_eq_getElem (by omega)
      have hfj := hf j fs[j] (Array.getElem?_eq_getElem hj)
      rw [hxj] at hfj
      refine ih _ (h1 _ (Array.getElem_mem hj)) hfj _ ?_
      refine List.mem_iff_getElem?.2 ⟨i - fs[j].offset, ?_⟩
      rw [List.getElem?_take, if_pos (by omega), List.getElem?_drop, show fs[j].offset + (i - fs[j].offset) = i by omega]
      exact List.getElem?_eq_getElem hi
    · cases h
theorem ints_of : ∀ (cs : List Value), (∀ v ∈ cs, ∃ n, v = .int .i64 n ∧ I64' n) → ∃ z : List Int, cs = ivs z ∧ ∀ n ∈ z, I64' n
  | [], _ => ⟨[], rfl, by simp⟩
  | v :: cs, h => by
    obtain ⟨n, rfl, hn⟩ := h v (by simp)
    obtain ⟨z, rfl, hz⟩ := ints_of cs fun v hv => h v (by simp [hv])
    exact ⟨n :: z, rfl, by simpa using ⟨hn, hz⟩⟩
/-- A struct of integers, by value. -/
theorem agg_of {d : Nat} {t : TypeId} {fuel : Nat} {cs : List Value} {x : DataW H × List MemPlace} (hf : flat P d t = true) (hC : ∀ {fuel : Nat} {cs : List Value} {x : DataW H × List MemPlace}, DataW.trod enc P w base spare held fuel t cs = some x → cs.length = P.cellsOf t) (h : DataW.trod enc P w base spare held fuel t cs = some x) : ∃ z : List Int, cs = ivs z ∧ z.length = P.cellsOf t ∧ ∀ n ∈ z, I64' n := by
  obtain ⟨z, rfl, hz⟩ := ints_of cs (flat_ints d t hf h)
  exact ⟨z, rfl, by have := hC h; simpa [ivs] using this, hz⟩
theorem flatMap_get {C : Nat} : ∀ (zs : List (List Int)), (∀ z ∈ zs, z.length = C) → ∀ (i j : Nat), j < C → (zs.flatMap ivs)[i * C + j]? = (zs[i]?).bind fun z => (ivs z)[j]? := by
  intro zs
  induction zs with
  | nil => intro _ i j _; simp
  | cons z zs ih =>
    intro h i j hj
    have hz : (ivs z).length = C := by simp [ivs, h z (by simp)]
    rw [List.flatMap_cons]
    cases i with
    | zero => rw [List.getElem?_append_left (by omega)]; simp
    | succ i =>
      rw [List.getElem?_append_right (by rw [hz, Nat.add_mul]; omega), hz, show (i + 1) * C + j - C = i * C + j by rw [Nat.add_mul]; omega, ih (fun z hz => h z (by simp [hz])) i j hj]
      simp
/-- A slice of structs of integers. -/
theorem row_of {d : Nat} {t e : TypeId} {fuel : Nat} {a : Option Addr} {len cap C : Nat} {x : DataW H × List MemPlace} (ht : P.underlying t = some (.slice e)) (hf : flat P d e = true) (hC : P.cellsOf e = C) (hC0 : 0 < C) (h : DataW.trod enc P w base spare held fuel t [.slice a len cap] = some x) :
    ∃ zs : List (List Int), zs.length = len ∧ (∀ z ∈ zs, z.length = C ∧ ∀ n ∈ z, I64' n) ∧ RowAt w (.slice a len cap) len (zs.flatMap ivs) := by
  rcases open_slice ht h with ⟨h0, _⟩ | ⟨a', len', cap', m, n, D, Pl, hcs, hb, hl, hm, hmm, hx, hi⟩
  · simp at h0
    obtain ⟨rfl, rfl, rfl⟩ := h0
    exact ⟨[], rfl, by simp, none, 0, rfl, Nat.le_refl _, Nat.zero_le _, fun _ => rfl, fun h => absurd rfl h⟩
  · simp at hcs
    obtain ⟨rfl, rfl, rfl⟩ := hcs
    rw [hC] at hi
    obtain ⟨zs, hzl, hR⟩ := list_of_forall (R := fun i (z : List Int) => (z.length = C ∧ ∀ n ∈ z, I64' n) ∧ ∀ j v, (ivs z)[j]? = some v → w.cell? (a'.add (i * C + j)) = some v) len (fun i hil => by
      obtain ⟨cs', hc, ht'⟩ := hi i (by rw [hmm]; split <;> omega)
      obtain ⟨_, hcl, hat⟩ := World.cells?_some hc
      obtain ⟨z, rfl, hz⟩ := ints_of cs' (flat_ints d e hf ht')
      have hzl : z.length = C := by simpa [ivs] using hcl
      refine ⟨z, ⟨hzl, hz⟩, fun j v hv => ?_⟩
      have hj : j < C := by
        have := (List.getElem?_eq_some_iff.1 hv).1
        simp [ivs] at this; omega
      rw [← Go.Deep.add_add, hat j hj, hv])
    refine ⟨zs, hzl, fun z hz => ?_, some a', cap, rfl, hl, hm, (fun e => by cases e), fun hn0 => ?_⟩
    · obtain ⟨i, hi⟩ := List.mem_iff_getElem?.1 hz
      exact (hR i z hi).1
    · have hzu : ∀ z ∈ zs, z.length = C := fun z hz => by
        obtain ⟨i, hi⟩ := List.mem_iff_getElem?.1 hz
        exact (hR i z hi).1.1
      obtain ⟨z0, hz0⟩ : ∃ z, zs[0]? = some z := ⟨_, List.getElem?_eq_getElem (by omega)⟩
      have hc0 := (hR 0 z0 hz0).2 0 ((ivs z0)[0]'(by simp [ivs, (hR 0 z0 hz0).1.1, hC0])) (List.getElem?_eq_getElem _)
      simp only [Nat.zero_mul, Nat.zero_add, Addr.add_zero'] at hc0
      have ea := addr_of_cell hc0
      refine ⟨a'.block, a'.off, by rw [← ea], fun j u hu => ?_⟩
      have hj : j / C * C + j % C = j := Nat.div_add_mod' j C
      rw [← hj, flatMap_get zs hzu _ _ (Nat.mod_lt _ hC0)] at hu
      cases hq : zs[j / C]? with
      | none => rw [hq] at hu; cases hu
      | some z =>
        rw [hq] at hu
        have hcell := (hR _ z hq).2 (j % C) u hu
        rw [hj, ea, Addr.add_lit] at hcell
        exact hcell
end
end Go.Proofs.Ytfihmpkkpgmdhab
