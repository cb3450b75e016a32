/-
  The steps on a disk, out of the reading of an argument.
-/
import Derived.Test.YtfihmpkkpgmdhaaView
import Derived.Test.YtfihmpkkpgmdhaaDiskLaw
namespace Go.Proofs.Ytfihmpkkpgmdhaa
set_option linter.unusedSimpArgs false
set_option linter.unusedVariables false
open Go.RowKit Go.ChangeShapes Go.WideShapes Go.Deep

theorem i64_of {n : Int} (h : (Lit.int .i64 n).wf = true) : I64 n := by
  have := bounds_i64 h
  unfold I64
  omega
section
variable {H : Type} {enc : TypeId × Value → H} {w : World} {base : Nat} {spare : Nat → Bool} {held : Bool}
theorem stepsAt_of {fuel : Nat} {a : Option Addr} {len cap : Nat} {x : DataW H × List MemPlace} (h : DataW.trod enc Try.prog w base spare held fuel 22 [.slice a len cap] = some x) : ∃ L, StepsAt w (.slice a len cap) L := by
  rcases open_slice_fields Try.underlying22 Try.underlying32 (by kernel_rfl) (by kernel_rfl) h with hcs | ⟨a', l, c, hcs, hl, hm, hi⟩
  · simp at hcs
    obtain ⟨rfl, rfl, rfl⟩ := hcs
    exact ⟨[], none, 0, rfl, Nat.zero_le _, by simp⟩
  · simp at hcs
    obtain ⟨rfl, rfl, rfl⟩ := hcs
    obtain ⟨L, hL, hR⟩ := list_of_forall (R := fun i (x : DStep) => BytesAt w x.v x.b ∧ I64 x.op ∧ I64 x.ep ∧ I64 x.n ∧ ∃ g off, some a' = some ⟨g, off, none⟩ ∧
      w.cell? ⟨g, off + i * 4, none⟩ = some (.int .i64 x.op) ∧ w.cell? ⟨g, off + i * 4 + 1, none⟩ = some (.int .i64 x.ep) ∧
      w.cell? ⟨g, off + i * 4 + 2, none⟩ = some (.int .i64 x.n) ∧ w.cell? ⟨g, off + i * 4 + 3, none⟩ = some x.v) len (fun i hil => by
        obtain ⟨n0, hf⟩ := hi i hil
        obtain ⟨n00, hf0⟩ := hi 0 (by omega)
        obtain ⟨_, _, hc00, _⟩ := hf0 0 _ rfl
        simp only [Nat.zero_mul, Nat.zero_add, Addr.add_zero'] at hc00
        have ea := addr_of_cell hc00
        obtain ⟨v0, y0, c0, t0⟩ := hf 0 _ rfl
        obtain ⟨v1, y1, c1, t1⟩ := hf 1 _ rfl
        obtain ⟨v2, y2, c2, t2⟩ := hf 2 _ rfl
        obtain ⟨v3, y3, c3, t3⟩ := hf 3 _ rfl
        obtain ⟨n1, e1, _, f1⟩ := DataW.trod_int Try.underlying3 t0
        obtain ⟨n2, e2, _, f2⟩ := DataW.trod_int Try.underlying3 t1
        obtain ⟨n3, e3, _, f3⟩ := DataW.trod_int Try.underlying3 t2
        obtain ⟨l, hb⟩ := bytesAt_of Try.underlying28 Try.underlying5 (by kernel_rfl) t3
        simp only [List.cons.injEq, and_true] at e1 e2 e3
        subst e1 e2 e3
        rw [ea] at c0 c1 c2 c3
        simp only [Addr.add_lit] at c0 c1 c2 c3
        refine ⟨⟨n1, n2, n3, v3, l⟩, hb, i64_of f1, i64_of f2, i64_of f3, a'.block, a'.off, by rw [← ea], c0, c1, c2, c3⟩)
    subst hL
    exact ⟨L, some a', cap, rfl, by omega, hR⟩
end
end Go.Proofs.Ytfihmpkkpgmdhaa
