/-
  Steps of such a walk: a whole struct loaded, stored; two variables made.
-/
import Derived.Test.YtfihmpkkpgmdhabLexH
import Derived.Test.YtfihmpkkpgmdhabSlices
import Derived.Test.YtfihmpkkpgmdhabMem
namespace Go.Proofs.Ytfihmpkkpgmdhab
set_option linter.unusedVariables false
open Go
section
variable {P : Program} {ops : Array Oper} {S : World → Prop} {path : List Nat} {fz : Nat → Option (TypeId × List Value)} {Q : Exit → Act → World → Prop} {w0 : World}
variable {o : Oper} {i : Nat} {rest : List Oper} {a : Act} {A : HP}
theorem exec_load_part {w : World} (ty : TypeId) (x : Operand) (ho : o.op = .load ty x) (g off : Nat) (hx : a.eval x = .pointer (some ⟨g, off, none⟩)) {t : TypeId} {cs : List Value} (vs : List Value) {d : TypeDesc} (hb : BlockAt w g t cs) (hvs : (cs.drop off).take vs.length = vs)
    (hu : P.underlying ty = some d) (hd : (match d with | .struct _ | .array _ _ => true | _ => false) = true) (hi : (P.info? ty).map (·.size) = some vs.length) : (execOp a.eval o).run P w = .ok (.value (.agg vs.toArray)) w := by
  unfold execOp
  simp only [ho, hx, Instr.loadAt, Instr.sureAddr, Sem.run_bind, Sem.run_pure, Result.andThen_ok, run_load_part hb hvs hu hd hi]
theorem exec_store_part {w : World} (ty : TypeId) (x y : Operand) (ho : o.op = .store ty x y) (g off : Nat) (vs : List Value) (hx : a.eval x = .pointer (some ⟨g, off, none⟩)) (hy : a.eval y = .agg vs.toArray) {t : TypeId} {cs : List Value} (hb : BlockAt w g t cs) (hfit : off + vs.length ≤ cs.length)
    (hi : (P.info? ty).map (·.size) = some vs.length) (h1 : Ones vs) : ∃ w', (execOp a.eval o).run P w = .ok .skip w' ∧ BlockAt w' g t (cs.take off ++ vs ++ cs.drop (off + vs.length)) ∧ w.grownBy w' (some g) := by
  refine ⟨_, ?_, hb.setRow _, grown_setRow (grown_refl w _) _⟩
  unfold execOp
  simp only [ho, hx, hy, Instr.storeAt, Instr.sureAddr, Sem.run_bind, Sem.run_pure, Result.andThen_ok, run_store_part hb hfit hi h1]
/-- A load of a whole struct, in every world of the class. -/
theorem LexHL.load (ty : TypeId) (x : Operand) (ho : o.op = .load ty x) (g off : Nat) (hx : a.eval x = .pointer (some ⟨g, off, none⟩)) {t : TypeId} {cs : List Value} (vs : List Value) {d : TypeDesc} (hb : ∀ w, S w → BlockAt w g t cs) (hvs : (cs.drop off).take vs.length = vs)
    (hu : P.underlying ty = some d) (hd : (match d with | .struct _ | .array _ _ => true | _ => false) = true) (hi : (P.info? ty).map (·.size) = some vs.length) (hf : fz i = none) (hw : Region.wanted o (yielded ops a.tmps) = true)
    (h : LexHL P ops S path fz Q w0 (i + 1) rest (a.put o.dst (.agg vs.toArray)) A) : LexHL P ops S path fz Q w0 i (o :: rest) a A :=
  LexHL.still hf hw (fun w hS => exec_load_part ty x ho g off hx vs (hb w hS) hvs hu hd hi) h
/-- A store of a whole struct into a block of its own. -/
theorem LexHL.storeB {q : Nat} {t : TypeId} {cs : List Value} {B : HP} (ty : TypeId) (x y : Operand) (ho : o.op = .store ty x y) (vs : List Value) (hx : a.eval x = .pointer (some ⟨q, 0, none⟩)) (hy : a.eval y = .agg vs.toArray) (hlen : vs.length = cs.length)
    (hi : (P.info? ty).map (·.size) = some vs.length) (h1 : Ones vs) (hf : fz i = none) (hw : Region.wanted o (yielded ops a.tmps) = true) (hp : i ∈ path) (hA : A = bl q t cs * B) (hS : ∀ w R, Holds w (bl q t vs * B * R) → S w)
    (h : LexHL P ops S path fz Q w0 (i + 1) rest (a.put o.dst undef) (bl q t vs * B)) : LexHL P ops S path fz Q w0 i (o :: rest) a A := by
  subst hA
  refine LexHL.store (w1 := id) hf hw hp (fun w R hSw hq hA => ?_) h
  have hA' : Holds w (bl q t cs * (B * R)) := hA.eq (by ac_rfl)
  obtain ⟨w', e, hb, hg⟩ := exec_store_part (P := P) ty x y ho q 0 vs hx hy hA'.bl (by omega) hi h1
  have hb' : BlockAt w' q t vs := by simpa [hlen] using hb
  have hB := (hA'.grown hg hb').eq (show bl q t vs * (B * R) = bl q t vs * B * R from by ac_rfl)
  exact ⟨w', e, hS _ _ hB, hq.trans (Quiet.grown hg), hB⟩
def fz2 (i1 : Nat) (ty1 : TypeId) (cs1 : List Value) (i2 : Nat) (ty2 : TypeId) (cs2 : List Value) : Nat → Option (TypeId × List Value) := fun i => if i = i1 then some (ty1, cs1) else if i = i2 then some (ty2, cs2) else none
theorem fz2_fl {i1 i2 : Nat} {ty1 ty2 : TypeId} {cs1 cs2 : List Value} : ∀ i, fz2 i1 ty1 cs1 i2 ty2 cs2 i ≠ none → i ∈ [i1, i2] := fun i h => by
  unfold fz2 at h
  split at h
  · subst_vars; simp
  · split at h
    · subst_vars; simp
    · exact absurd rfl h
theorem fz2_no {i1 i2 : Nat} {ty1 ty2 : TypeId} {cs1 cs2 : List Value} : ∀ i ∈ [i1, i2], fz2 i1 ty1 cs1 i2 ty2 cs2 i ≠ none := fun i h => by
  unfold fz2
  simp only [List.mem_cons, List.not_mem_nil, or_false] at h
  split
  · simp
  · split
    · simp
    · omega
def MadeBy (P : Program) (o : Oper) (ty : TypeId) (cs : List Value) : Prop := o.guard = none ∧ ∀ (a : Act) (w : World), (execOp a.eval o).run P w = .ok (.value (.pointer (some ⟨w.heap.size, 0, none⟩))) (w.alloc (.cells cs.toArray ty))
theorem fz2_ok {i1 i2 : Nat} {o1 o2 : Oper} {ty1 ty2 : TypeId} {cs1 cs2 : List Value} (h1 : ops[i1]? = some o1) (r1 : MadeBy P o1 ty1 cs1) (h2 : ops[i2]? = some o2) (r2 : MadeBy P o2 ty2 cs2) : FzOk P ops (fz2 i1 ty1 cs1 i2 ty2 cs2) := fun i ty cs h o ho => by
  unfold fz2 at h
  split at h
  · subst_vars
    simp only [Option.some.injEq, Prod.mk.injEq] at h
    obtain ⟨rfl, rfl⟩ := h
    rw [h1] at ho
    obtain rfl := Option.some.inj ho
    exact r1
  · split at h
    · subst_vars
      simp only [Option.some.injEq, Prod.mk.injEq] at h
      obtain ⟨rfl, rfl⟩ := h
      rw [h2] at ho
      obtain rfl := Option.some.inj ho
      exact r2
    · cases h
end
end Go.Proofs.Ytfihmpkkpgmdhab
