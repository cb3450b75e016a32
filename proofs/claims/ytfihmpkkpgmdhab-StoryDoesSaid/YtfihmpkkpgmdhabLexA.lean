/-
  A drawn append: what is owned, and a row behind it.
-/
import Derived.Test.YtfihmpkkpgmdhabLex
import Derived.Test.YtfihmpkkpgmdhabSlices
namespace Go.Proofs.Ytfihmpkkpgmdhab
set_option linter.unusedVariables false
open Go.RowKit
section
variable {P : Program} {ops : Array Oper} {S : World → Prop} {path : List Nat} {Q : Exit → Act → World → Prop}
theorem LexL.append {o : Oper} {i : Nat} {rest : List Oper} {a : Act} {w : World} (s x : Operand) (t : TypeId)
    (ho : o.op = .call { callee := .builtin .append, args := #[s, x], argTypes := #[t, t] })
    (e : TypeId) (ti : TypeInfo) (z : Value) (size bytes : Nat) (ht : P.underlying t = some (.slice e)) (hi : P.info? e = some ti) (hz : ti.zero = some z) (hsz : ti.size = size) (hby : ti.bytes = bytes) (hzs : z.cells.size = size) (hs0 : 0 < size)
    {v y : Value} {n m : Nat} {xs ys : List Value} {R : HP} (hs : a.eval s = v) (hx : a.eval x = y) (hw : Region.wanted o (yielded ops a.tmps) = true) (hp : i ∈ path)
    (hv : Holds w (rw_ e size v n xs * R)) (hy : RowAt w y m ys) (hyl : ys.length = m * size) (hy1 : Ones ys) (hlen : (n + m) * bytes ≤ 140737488355328) (hnm : n + m ≤ 140737488355328)
    (h : ∀ v' w', Holds w' (rw_ e size v' (n + m) (xs ++ ys) * R) → Quiet w w' → S w' ∧ LexL P ops S path Q (i + 1) rest (a.put o.dst v') w') : LexL P ops S path Q i (o :: rest) a w := by
  obtain ⟨F, ⟨hown, rfl⟩, hn⟩ := hv.open
  obtain ⟨v', w', hr, h2, h3, h4⟩ := run_append_row (P := P) t o.type e ti z size bytes ht hi hz hsz hby hzs hs0 hown hy hyl hy1 hlen hnm
  obtain ⟨hS, hl⟩ := h v' w' (hn w' _ _ ⟨h2, rfl⟩ h3 h4) (Quiet.upd h3)
  refine LexL.value (w1 := w') (v := v') hw hp ?_ hS hl
  unfold execOp
  simp only [ho, resolve, invoke, builtin, Sem.run_bind, Sem.run_pure, Result.andThen_ok, List.map_toArray, List.map_cons, List.map_nil, hs, hx, hr]
end
end Go.Proofs.Ytfihmpkkpgmdhab
