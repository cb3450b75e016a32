/-
  Plain definitions and laws, no program in sight.
-/
import Derived.Test.YtfihmpkkpgmdhabLexH
/-
  As LexH; what is made may be a slice's cells, out of what the frame has.
-/
namespace Go.Proofs.Ytfihmpkkpgmdhab
set_option linter.unusedVariables false
open Go
section
variable {P : Program} {ops : Array Oper} {S : World → Prop} {path : List Nat} {fz : Nat → Option (TypeId × List Value × (Nat → Value))} {Q : Exit → Act → World → Prop} {w0 : World}
def MadeAt (P : Program) (o : Oper) (a : Act) (ty : TypeId) (cs : List Value) (mk : Nat → Value) : Prop := ∀ w : World, (execOp a.eval o).run P w = .ok (.value (mk w.heap.size)) (w.alloc (.cells cs.toArray ty))
def LexG (P : Program) (ops : Array Oper) (S : World → Prop) (path : List Nat) (fz : Nat → Option (TypeId × List Value × (Nat → Value))) (Q : Exit → Act → World → Prop) (w0 : World) : List Nat → Act → HP → Prop
  | [], a, A => ∀ w, S w → Holds w A → Quiet w0 w → Q .normal a w
  | i :: rest, a, A => ∃ o, ops[i]? = some o ∧
      ((fz i = none ∧ ∃ v, Yl P ops S o a v ∧ LexG P ops S path fz Q w0 rest (a.put o.dst v) A) ∨
       (fz i = none ∧ Region.wanted o (yielded ops a.tmps) = true ∧ i ∈ path ∧ ∀ w R, S w → Quiet w0 w → Holds w (A * R) → Loud P o a w fun v w' => S w' ∧ Quiet w0 w' ∧ ∃ A', Holds w' (A' * R) ∧ LexG P ops S path fz Q w0 rest (a.put o.dst v) A') ∨
       (∃ ty cs mk, fz i = some (ty, cs, mk) ∧ MadeAt P o a ty cs mk ∧ ∀ q : Nat, Live S w0 (bl q ty cs * A) → LexG P ops S path fz Q w0 rest (a.put o.dst (mk q)) (bl q ty cs * A)))
/-- What is asked of what is made. -/
def FzFree (ops : Array Oper) (fz : Nat → Option (TypeId × List Value × (Nat → Value))) : Prop := ∀ i x, fz i = some x → ∀ o, ops[i]? = some o → o.guard = none

theorem LexG.pullF (hSa : ∀ w o, S w → S (w.alloc o)) {i : Nat} {oi : Oper} {post : List Nat} {ty : TypeId} {cs : List Value} {mk : Nat → Value} (hi : ops[i]? = some oi) (hf : fz i = some (ty, cs, mk)) (hsel : ∀ (j : Nat) (o : Oper) cs b, ops[j]? = some o → o.op ≠ .select cs b) :
    ∀ (pre : List Nat) (a : Act) (A : HP), Live S w0 A → (∀ p ∈ pre, ∀ o, ops[p]? = some o → o.apart ops oi = true) → LexG P ops S path fz Q w0 (pre ++ i :: post) a A →
      MadeAt P oi a ty cs mk ∧ ∀ q : Nat, Live S w0 (bl q ty cs * A) → LexG P ops S path fz Q w0 (pre ++ post) (a.put oi.dst (mk q)) (bl q ty cs * A)
  | [], a, A, _, _, h => by
    obtain ⟨o, ho, h⟩ := h
    rw [hi] at ho
    obtain rfl := Option.some.inj ho
    rcases h with ⟨e, _⟩ | ⟨e, _⟩ | ⟨ty', cs', mk', e, hm, h⟩
    · rw [hf] at e; cases e
    · rw [hf] at e; cases e
    · rw [hf] at e
      simp only [Option.some.injEq, Prod.mk.injEq] at e
      obtain ⟨rfl, rfl, rfl⟩ := e
      exact ⟨hm, h⟩
  | p :: pre, a, A, hlive, hap, h => by
    obtain ⟨op, hop, h⟩ := h
    obtain ⟨h1, h2, h3⟩ := Oper.apart_spec (hap p (by simp) op hop)
    have hx := fun v => execOp_put (ops := ops) op (fun cs b => hsel p op cs b hop) a oi.dst v h3
    have hwp := fun v => wanted_put (ops := ops) op a oi.dst v h3
    have toM : ∀ u, MadeAt P oi (a.put op.dst u) ty cs mk → MadeAt P oi a ty cs mk := fun u hm w => by
      have := hm w
      rwa [execOp_put (ops := ops) oi (fun cs b => hsel i oi cs b hi) a op.dst u h1] at this
    rcases h with ⟨e, u, hu, h⟩ | ⟨e, hw, hp, h⟩ | ⟨ty', cs', mk', e, hm', h⟩
    · have ih := LexG.pullF hSa hi hf hsel pre _ A hlive (fun q hq' => hap q (by simp [hq'])) h
      refine ⟨toM u ih.1, fun q hq => ⟨op, hop, .inl ⟨e, u, hu.same (hx _) (hwp _), ?_⟩⟩⟩
      rw [← Act.put_comm a u _ h2]
      exact ih.2 q hq
    · refine ⟨?_, fun q hq => ⟨op, hop, .inr (.inl ⟨e, by rw [hwp]; exact hw, hp, fun w R hS hqu hA => ?_⟩)⟩⟩
      · obtain ⟨w, R, b1, b2, b3⟩ := hlive
        obtain ⟨u, w1, hS1, hq1, A1, hA1, hl1⟩ := (h w R b1 b2 b3).some
        exact toM u (LexG.pullF hSa hi hf hsel pre _ A1 ⟨w1, R, hS1, hq1, hA1⟩ (fun q hq' => hap q (by simp [hq'])) hl1).1
      · have hl := h w (bl q ty cs * R) hS hqu (hA.eq (by ac_rfl))
        unfold Loud at hl ⊢
        rw [hx]
        refine Loud.mono (o := op) (a := a) (w := w) hl fun v w' ⟨hS', hq', A', hA', hl'⟩ => ⟨hS', hq', bl q ty cs * A', hA'.eq (by ac_rfl), ?_⟩
        rw [← Act.put_comm a v _ h2]
        exact (LexG.pullF hSa hi hf hsel pre _ A' ⟨w', bl q ty cs * R, hS', hq', hA'⟩ (fun q hq' => hap q (by simp [hq'])) hl').2 q ⟨w', R, hS', hq', hA'.eq (by ac_rfl)⟩
    · refine ⟨?_, fun q hq => ⟨op, hop, .inr (.inr ⟨ty', cs', mk', e, fun w => by rw [hx]; exact hm' w, fun q' hq' => ?_⟩)⟩⟩
      · obtain ⟨w, R, b1, b2, b3⟩ := hlive
        have hl0 : Live S w0 (bl w.heap.size ty' cs' * A) := ⟨w.alloc (.cells cs'.toArray ty'), R, hSa _ _ b1, b2.alloc _, (b3.allocB ty' cs').eq (by ac_rfl)⟩
        exact toM _ (LexG.pullF hSa hi hf hsel pre _ _ hl0 (fun q hq' => hap q (by simp [hq'])) (h _ hl0)).1
      · have hl1 : Live S w0 (bl q' ty' cs' * A) := by obtain ⟨w, R, a1, a2, a3⟩ := hq'; exact ⟨w, bl q ty cs * R, a1, a2, a3.eq (by ac_rfl)⟩
        have hl2 : Live S w0 (bl q ty cs * (bl q' ty' cs' * A)) := by obtain ⟨w, R, a1, a2, a3⟩ := hq'; exact ⟨w, R, a1, a2, a3.eq (by ac_rfl)⟩
        have ih := (LexG.pullF hSa hi hf hsel pre _ _ hl1 (fun q hq' => hap q (by simp [hq'])) (h q' hl1)).2 q hl2
        rw [← Act.put_comm a _ _ h2]
        rw [show bl q' ty' cs' * (bl q ty cs * A) = bl q ty cs * (bl q' ty' cs' * A) from by ac_rfl]
        exact ih

theorem LexG.pull (hSa : ∀ w o, S w → S (w.alloc o)) {i : Nat} {oi : Oper} {post : List Nat} (hi : ops[i]? = some oi) (hq : i ∉ path) (hf : fz i = none) (hsel : ∀ (j : Nat) (o : Oper) cs b, ops[j]? = some o → o.op ≠ .select cs b) :
    ∀ (pre : List Nat) (a : Act) (A : HP), Live S w0 A → (∀ p ∈ pre, ∀ o, ops[p]? = some o → o.apart ops oi = true) → LexG P ops S path fz Q w0 (pre ++ i :: post) a A →
      ∃ v, Yl P ops S oi a v ∧ LexG P ops S path fz Q w0 (pre ++ post) (a.put oi.dst v) A
  | [], a, A, _, _, h => by
    obtain ⟨o, ho, h⟩ := h
    rw [hi] at ho
    obtain rfl := Option.some.inj ho
    rcases h with ⟨_, h⟩ | ⟨_, _, hp, _⟩ | ⟨_, _, _, e, _⟩
    · exact h
    · exact absurd hp hq
    · rw [hf] at e; cases e
  | p :: pre, a, A, hlive, hap, h => by
    obtain ⟨op, hop, h⟩ := h
    obtain ⟨h1, h2, h3⟩ := Oper.apart_spec (hap p (by simp) op hop)
    have toA : ∀ u v, Yl P ops S oi (a.put op.dst u) v → Yl P ops S oi a v := fun u v hy =>
      hy.same (execOp_put (ops := ops) oi (fun cs b => hsel i oi cs b hi) a op.dst u h1).symm (wanted_put oi a op.dst u h1).symm
    rcases h with ⟨e, u, hu, h⟩ | ⟨e, hw, hp, h⟩ | ⟨ty', cs', mk', e, hm', h⟩
    · obtain ⟨v, hv, hl⟩ := LexG.pull hSa hi hq hf hsel pre _ A hlive (fun q hq' => hap q (by simp [hq'])) h
      refine ⟨v, toA u v hv, op, hop, .inl ⟨e, u, hu.same (execOp_put (ops := ops) op (fun cs b => hsel p op cs b hop) a oi.dst v h3) (wanted_put op a oi.dst v h3), ?_⟩⟩
      rw [← Act.put_comm a u v h2]
      exact hl
    · obtain ⟨w, R, b1, b2, b3⟩ := hlive
      obtain ⟨u, w1, hS1, hq1, A1, hA1, hl1⟩ := (h w R b1 b2 b3).some
      obtain ⟨v, hv, _⟩ := LexG.pull hSa hi hq hf hsel pre _ A1 ⟨w1, R, hS1, hq1, hA1⟩ (fun q hq' => hap q (by simp [hq'])) hl1
      refine ⟨v, toA u v hv, op, hop, .inr (.inl ⟨e, by rw [wanted_put op a oi.dst v h3]; exact hw, hp, fun w R hS hqu hA => ?_⟩)⟩
      have hl := h w R hS hqu hA
      unfold Loud at hl ⊢
      rw [execOp_put (ops := ops) op (fun cs b => hsel p op cs b hop) a oi.dst v h3]
      refine Loud.mono (o := op) (a := a) (w := w) hl fun u' w' ⟨hS', hq', A', hA', hl'⟩ => ⟨hS', hq', A', hA', ?_⟩
      obtain ⟨v', hv', hl''⟩ := LexG.pull hSa hi hq hf hsel pre _ A' ⟨w', R, hS', hq', hA'⟩ (fun q hq' => hap q (by simp [hq'])) hl'
      obtain rfl := Yl.unique hS' (toA u' v' hv') (toA u v hv)
      rw [← Act.put_comm a u' v' h2]
      exact hl''
    · obtain ⟨w, R, b1, b2, b3⟩ := hlive
      have hl0 : Live S w0 (bl w.heap.size ty' cs' * A) := ⟨w.alloc (.cells cs'.toArray ty'), R, hSa _ _ b1, b2.alloc _, (b3.allocB ty' cs').eq (by ac_rfl)⟩
      obtain ⟨v, hv, _⟩ := LexG.pull hSa hi hq hf hsel pre _ _ hl0 (fun q hq' => hap q (by simp [hq'])) (h _ hl0)
      refine ⟨v, toA _ v hv, op, hop, .inr (.inr ⟨ty', cs', mk', e, fun w => by rw [execOp_put (ops := ops) op (fun cs b => hsel p op cs b hop) a oi.dst v h3]; exact hm' w, fun q' hq' => ?_⟩)⟩
      obtain ⟨v', hv', hl''⟩ := LexG.pull hSa hi hq hf hsel pre _ _ hq' (fun q hq' => hap q (by simp [hq'])) (h q' hq')
      obtain rfl := Yl.unique b1 (toA _ v' hv') (toA _ v hv)
      rw [← Act.put_comm a _ v' h2]
      exact hl''

theorem LexG.pullL {i : Nat} {oi : Oper} {post : List Nat} (hi : ops[i]? = some oi) (hf : fz i = none) (hsel : ∀ (j : Nat) (o : Oper) cs b, ops[j]? = some o → o.op ≠ .select cs b) :
    ∀ (pre : List Nat) (a : Act) (A : HP), (∀ p ∈ pre, ∀ o, ops[p]? = some o → o.apart ops oi = true) → (∀ p ∈ pre, p ∉ path ∧ fz p = none) → LexG P ops S path fz Q w0 (pre ++ i :: post) a A →
      (∃ v, Yl P ops S oi a v ∧ LexG P ops S path fz Q w0 (pre ++ post) (a.put oi.dst v) A) ∨
      (Region.wanted oi (yielded ops a.tmps) = true ∧ ∀ w R, S w → Quiet w0 w → Holds w (A * R) → Loud P oi a w fun v w' => S w' ∧ Quiet w0 w' ∧ ∃ A', Holds w' (A' * R) ∧ LexG P ops S path fz Q w0 (pre ++ post) (a.put oi.dst v) A')
  | [], a, A, _, _, h => by
    obtain ⟨o, ho, h⟩ := h
    rw [hi] at ho
    obtain rfl := Option.some.inj ho
    rcases h with ⟨_, h⟩ | ⟨_, hw, _, h⟩ | ⟨_, _, _, e, _⟩
    · exact .inl h
    · exact .inr ⟨hw, h⟩
    · rw [hf] at e; cases e
  | p :: pre, a, A, hap, hno, h => by
    obtain ⟨op, hop, h⟩ := h
    obtain ⟨h1, h2, h3⟩ := Oper.apart_spec (hap p (by simp) op hop)
    rcases h with ⟨e, u, hu, h⟩ | ⟨_, _, hp, _⟩ | ⟨_, _, _, e, _⟩
    case inr.inl => exact absurd hp (hno p (by simp)).1
    case inr.inr => rw [(hno p (by simp)).2] at e; cases e
    have he := execOp_put (ops := ops) oi (fun cs b => hsel i oi cs b hi) a op.dst u h1
    have hwp := wanted_put (ops := ops) oi a op.dst u h1
    have hu' : ∀ v, Yl P ops S op (a.put oi.dst v) u := fun v => hu.same (execOp_put (ops := ops) op (fun cs b => hsel p op cs b hop) a oi.dst v h3) (wanted_put op a oi.dst v h3)
    rcases LexG.pullL hi hf hsel pre _ A (fun q hq' => hap q (by simp [hq'])) (fun q hq' => hno q (by simp [hq'])) h with ⟨v, hv, hl⟩ | ⟨hw, hl⟩
    · refine .inl ⟨v, hv.same he.symm hwp.symm, op, hop, .inl ⟨e, u, hu' v, ?_⟩⟩
      rw [← Act.put_comm a u v h2]
      exact hl
    · refine .inr ⟨by rw [← hwp]; exact hw, fun w R hS hq hA => ?_⟩
      have hl := hl w R hS hq hA
      unfold Loud at hl ⊢
      rw [he] at hl
      refine Loud.mono (o := oi) (a := a) (w := w) hl fun v w' ⟨hS', hq', A', hA', hl'⟩ => ⟨hS', hq', A', hA', op, hop, .inl ⟨e, u, hu' v, ?_⟩⟩
      rw [← Act.put_comm a u v h2]
      exact hl'

theorem wpAny_of_lexG (hSa : ∀ w o, S w → S (w.alloc o)) (hok : lexOk ops path = true) {fl : List Nat} (hfl : ∀ i, fz i ≠ none → i ∈ fl) (hfok : floatsOk ops path fl = true) (hno : ∀ i ∈ fl, fz i ≠ none) (hz : FzFree ops fz) (R : HP) : ∀ (n : Nat) (rem : List Nat) (listed : Array Bool) (a : Act) (w : World) (A : HP), rem.length = n → rem.Pairwise (· < ·) → listed.size = ops.size →
    (∀ k, k ∈ rem ↔ k < ops.size ∧ listed.getD k true = false) → Closed ops listed → S w → Quiet w0 w → Holds w (A * R) → LexG P ops S path fz Q w0 rem a A → wpAny P .any ops Q n listed a w := by
  have hok' := hok
  simp only [lexOk, Bool.and_eq_true] at hok'
  obtain ⟨⟨hns, hall⟩, hpath⟩ := hok'
  have hsel := fun (j : Nat) (o : Oper) cs b => Region.noSelect_spec hns j o cs b
  have hfp : ∀ x ∈ path, x ∉ fl ∧ ∀ p ∈ fl, p < x → hasEdge ops x p = true := fun x hx => by
    have := List.all_eq_true.1 hfok x hx
    simp only [Bool.and_eq_true, Bool.not_eq_true', List.all_eq_true, Bool.or_eq_true, decide_eq_false_iff_not] at this
    refine ⟨(fun h => by rw [List.contains_iff_mem.2 h] at this; cases this.1), fun p hp hlt => ?_⟩
    rcases this.2 p hp with h | h
    · exact absurd hlt h
    · exact h
  intro n
  induction n with
  | zero =>
    intro rem listed a w A hn _ _ hrem _ hS hq hA h
    obtain rfl := List.eq_nil_of_length_eq_zero hn
    refine ⟨?_, h w hS hA.left hq⟩
    refine List.eq_nil_iff_forall_not_mem.2 fun i hi => ?_
    obtain ⟨h0, o, ho, _⟩ := mem_ready.1 hi
    have := (hrem i).2 ⟨(Array.getElem?_eq_some_iff.1 ho).1, h0⟩
    cases this
  | succ n ih =>
    intro rem listed a w A hn hpw hsz hrem hcl hS hqu hA h
    have hedge : ∀ j oj, ops[j]? = some oj → (∀ e ∈ oj.after, Region.binds .any e = true → e.on < j) ∧ ∀ i, i < j → hasEdge ops j i = true ∨ ∀ oi, ops[i]? = some oi → oi.apart ops oj = true := by
      intro j oj hj
      have h1 := List.all_eq_true.1 hall j (List.mem_range.2 (Array.getElem?_eq_some_iff.1 hj).1)
      simp only [hj, Bool.and_eq_true] at h1
      refine ⟨fun e he hb => ?_, fun i hij => ?_⟩
      · have := Array.all_eq_true_iff_forall_mem.1 h1.1 e he
        simpa [hb] using this
      · have := List.all_eq_true.1 h1.2 i (List.mem_range.2 hij)
        simp only [Bool.or_eq_true] at this
        refine this.imp id fun h2 oi hoi => ?_
        simpa [hoi] using h2
    refine ⟨fun hr0 => ?_, fun i hi => ?_⟩
    · exfalso
      match rem, hn, hpw, hrem with
      | m :: rest, _, hpw, hrem =>
        have hm := (hrem m).1 (by simp)
        obtain ⟨om, hom⟩ : ∃ o, ops[m]? = some o := ⟨_, Array.getElem?_eq_getElem hm.1⟩
        have : m ∈ Region.ready .any ops listed := mem_ready.2 ⟨hm.2, om, hom, fun e he hb => by
          have hlt := (hedge m om hom).1 e he hb
          have hno : e.on ∉ m :: rest := by
            intro hmem
            rcases List.mem_cons.1 hmem with h1 | h1
            · omega
            · have := (List.pairwise_cons.1 hpw).1 _ h1; omega
          have hlt2 : e.on < listed.size := by omega
          have hg : ¬ listed.getD e.on true = false := fun hf => hno ((hrem e.on).2 ⟨by omega, hf⟩)
          simp [hlt2] at hg ⊢
          exact hg⟩
        rw [hr0] at this
        cases this
    · obtain ⟨h0, oi, hoi, hall'⟩ := mem_ready.1 hi
      have hilt := (Array.getElem?_eq_some_iff.1 hoi).1
      have him := (hrem i).2 ⟨hilt, h0⟩
      obtain ⟨pre, post, rfl⟩ := List.append_of_mem him
      have hpre : ∀ p ∈ pre, p < i := fun p hp => (List.pairwise_append.1 hpw).2.2 p hp i (by simp)
      have hun : ∀ p ∈ pre, listed.getD p false = false := fun p hp => by
        have := (hrem p).1 (by simp [hp])
        have hlt2 : p < listed.size := by omega
        simpa [hlt2] using this.2
      have hnoedge : ∀ p ∈ pre, hasEdge ops i p = true → False := fun p hp h1 => by
        obtain ⟨o', ho', e, he, hb, heq⟩ := hasEdge_iff.1 h1
        rw [hoi] at ho'
        obtain rfl := Option.some.inj ho'
        have := hall' e he hb
        rw [heq, hun p hp] at this
        cases this
      have hap : ∀ p ∈ pre, ∀ o, ops[p]? = some o → o.apart ops oi = true := fun p hp o ho => by
        rcases (hedge i oi hoi).2 p (hpre p hp) with h1 | h1
        · exact (hnoedge p hp h1).elim
        · exact h1 o ho
      have hne : ∀ k, k ∈ pre ++ post → k ≠ i := fun k hk hki => by
        subst hki
        rcases List.mem_append.1 hk with h1 | h1
        · exact Nat.lt_irrefl _ (hpre _ h1)
        · have := (List.pairwise_cons.1 (List.pairwise_append.1 hpw).2.1).1 _ h1; omega
      have next : ∀ a' w' A', S w' → Quiet w0 w' → Holds w' (A' * R) → LexG P ops S path fz Q w0 (pre ++ post) a' A' → wpAny P .any ops Q n (listed.setIfInBounds i true) a' w' := fun a' w' A' hS' hq' hA' hl => by
        refine ih (pre ++ post) _ a' w' A' (by simp at hn ⊢; omega) ?_ (by simpa using hsz) (fun k => ?_) ?_ hS' hq' hA' hl
        · refine List.Pairwise.sublist ?_ hpw
          exact List.Sublist.append (List.Sublist.refl _) (List.sublist_cons_self _ _)
        · by_cases hk : k = i
          · subst hk
            constructor
            · intro hm; exact absurd rfl (hne _ hm)
            · intro hm
              have hlt2 : k < listed.size := by omega
              simp [hlt2] at hm
          · rw [getD_set_ne true (Ne.symm hk), ← hrem k]
            simp [hk]
        · intro j o ho hj e he hb
          refine getD_set_true ?_
          by_cases hji : i = j
          · subst hji
            rw [hoi] at ho
            obtain rfl := Option.some.inj ho
            exact hall' e he hb
          · rw [getD_set_ne false hji] at hj
            exact hcl j o ho hj e he hb
      have fin : ∀ v, Yl P ops S oi a v → LexG P ops S path fz Q w0 (pre ++ post) (a.put oi.dst v) A → wpOp P ops Q i (wpAny P .any ops Q n (listed.setIfInBounds i true)) a w := fun v hv hl => by
        unfold wpOp
        simp only [hoi]
        rcases hv with ⟨hw, rfl⟩ | ⟨hw, hv⟩
        · simp only [hw, Bool.false_eq_true, if_false]
          exact next _ _ A hS hqu hA hl
        · simp only [hw, if_true]
          refine .inl ?_
          unfold Oper.wp
          rw [hv w hS]
          exact next _ _ A hS hqu hA hl
      by_cases hip : i ∈ path
      · have hif : fz i = none := by
          refine Classical.byContradiction fun hf => (hfp i hip).1 (hfl i hf)
        have hnp : ∀ p ∈ pre, p ∉ path ∧ fz p = none := fun p hp => by
          refine ⟨fun hpp => ?_, ?_⟩
          · have := path_listed hpath hcl i hip (fun o ho => by
              rw [hoi] at ho
              obtain rfl := Option.some.inj ho
              exact hall') p hpp (hpre p hp)
            rw [hun p hp] at this
            cases this
          · exact Classical.byContradiction fun hf => hnoedge p hp ((hfp i hip).2 p (hfl p hf) (hpre p hp))
        rcases LexG.pullL hoi hif hsel pre a A hap hnp h with ⟨v, hv, hl⟩ | ⟨hw, hl⟩
        · exact fin v hv hl
        · unfold wpOp
          simp only [hoi, hw, if_true]
          exact .inl ((hl w R hS hqu hA).wp fun v w' ⟨hS', hq', A', hA', hl'⟩ => next _ _ A' hS' hq' hA' hl')
      · cases hf : fz i with
        | none =>
          obtain ⟨v, hv, hl⟩ := LexG.pull hSa hoi hip hf hsel pre a A ⟨w, R, hS, hqu, hA⟩ hap h
          exact fin v hv hl
        | some x =>
          obtain ⟨ty, cs, mk⟩ := x
          have hg := hz i _ hf oi hoi
          have hA' : Holds (w.alloc (.cells cs.toArray ty)) (bl w.heap.size ty cs * A * R) := (hA.allocB ty cs).eq (by ac_rfl)
          obtain ⟨hx, hl⟩ := LexG.pullF hSa hoi hf hsel pre a A ⟨w, R, hS, hqu, hA⟩ hap h
          have hl := hl w.heap.size ⟨_, R, hSa _ _ hS, hqu.alloc _, hA'⟩
          unfold wpOp
          have hw : Region.wanted oi (yielded ops a.tmps) = true := by unfold Region.wanted; rw [hg]
          simp only [hoi, hw, if_true]
          refine .inl ?_
          unfold Oper.wp
          rw [hx w]
          exact next _ _ _ (hSa _ _ hS) (hqu.alloc _) hA' hl

def LexGL (P : Program) (ops : Array Oper) (S : World → Prop) (path : List Nat) (fz : Nat → Option (TypeId × List Value × (Nat → Value))) (Q : Exit → Act → World → Prop) (w0 : World) : Nat → List Oper → Act → HP → Prop
  | _, [], a, A => ∀ w, S w → Holds w A → Quiet w0 w → Q .normal a w
  | i, o :: rest, a, A =>
      ((fz i = none ∧ ∃ v, Yl P ops S o a v ∧ LexGL P ops S path fz Q w0 (i + 1) rest (a.put o.dst v) A) ∨
       (fz i = none ∧ Region.wanted o (yielded ops a.tmps) = true ∧ i ∈ path ∧ ∀ w R, S w → Quiet w0 w → Holds w (A * R) → Loud P o a w fun v w' => S w' ∧ Quiet w0 w' ∧ ∃ A', Holds w' (A' * R) ∧ LexGL P ops S path fz Q w0 (i + 1) rest (a.put o.dst v) A') ∨
       (∃ ty cs mk, fz i = some (ty, cs, mk) ∧ MadeAt P o a ty cs mk ∧ ∀ q : Nat, Live S w0 (bl q ty cs * A) → LexGL P ops S path fz Q w0 (i + 1) rest (a.put o.dst (mk q)) (bl q ty cs * A)))
theorem LexG.of_list : ∀ (l : List Oper) (i : Nat) (a : Act) (A : HP), (∀ k o, l[k]? = some o → ops[i + k]? = some o) → LexGL P ops S path fz Q w0 i l a A → LexG P ops S path fz Q w0 (List.range' i l.length) a A
  | [], _, _, _, _, h => h
  | o :: l, i, a, A, hl, h => by
    have hl' : ∀ k o, l[k]? = some o → ops[i + 1 + k]? = some o := fun k o hk => by
      have := hl (k + 1) o hk
      rwa [show i + (k + 1) = i + 1 + k by omega] at this
    refine ⟨o, hl 0 o rfl, ?_⟩
    rcases h with ⟨e, v, hv, h⟩ | ⟨e, hw, hp, h⟩ | ⟨ty, cs, mk, e, hm, h⟩
    · exact .inl ⟨e, v, hv, LexG.of_list l (i + 1) _ _ hl' h⟩
    · exact .inr (.inl ⟨e, hw, hp, fun w R h1 h2 h3 => (h w R h1 h2 h3).mono fun v w' ⟨h4, h5, A', h6, h7⟩ => ⟨h4, h5, A', h6, LexG.of_list l (i + 1) _ _ hl' h7⟩⟩)
    · exact .inr (.inr ⟨ty, cs, mk, e, hm, fun q hq => LexG.of_list l (i + 1) _ _ hl' (h q hq)⟩)
theorem wp_region_textG {id : Nat} {a : Act} {w : World} (S : World → Prop) (path fl : List Nat) (fz : Nat → Option (TypeId × List Value × (Nat → Value))) (A : HP) (rem : List Nat) (hm : P.follows .mixedOrders = true) (hok : lexOk ops path = true)
    (hfok : floatsOk ops path fl = true) (hfl : ∀ i, fz i ≠ none → i ∈ fl) (hno : ∀ i ∈ fl, fz i ≠ none) (hz : FzFree ops fz) (hSa : ∀ w o, S w → S (w.alloc o)) (hr : List.range ops.size = rem) (hS : S w.drew) (hA : Holds w.drew A)
    (h : LexG P ops S path fz Q w.drew rem a A) : (Code.region id ops true).wp P Q a w := by
  refine wp_region_any hm ?_
  subst hr
  have hemp : Holds w.drew (A * HP.emp) := by
    obtain ⟨F, hF⟩ := hA
    exact ⟨F, F, fun _ => False, fun _ _ h => h, fun k => by simp, hF, fun k h => h⟩
  refine wpAny_of_lexG (S := S) hSa hok hfl hfok hno hz HP.emp ops.size (List.range ops.size) _ a _ A (by simp) List.pairwise_lt_range (by simp) (fun k => ?_) ?_ hS (Quiet.refl _) hemp h
  · by_cases hk : k < ops.size <;> simp [hk]
  · intro j o _ hj
    by_cases hlt : j < ops.size <;> simp [hlt] at hj
theorem wp_region_lexG {l : List Oper} {id : Nat} {a : Act} {w : World} (S : World → Prop) (path fl : List Nat) (fz : Nat → Option (TypeId × List Value × (Nat → Value))) (A : HP) (hm : P.follows .mixedOrders = true) (hok : lexOk l.toArray path = true)
    (hfok : floatsOk l.toArray path fl = true) (hfl : ∀ i, fz i ≠ none → i ∈ fl) (hno : ∀ i ∈ fl, fz i ≠ none) (hz : FzFree l.toArray fz) (hSa : ∀ w o, S w → S (w.alloc o)) (hS : S w.drew) (hA : Holds w.drew A)
    (h : LexGL P l.toArray S path fz Q w.drew 0 l a A) : (Code.region id l.toArray true).wp P Q a w := by
  have h1 := LexG.of_list (ops := l.toArray) l 0 a A (fun k o hk => by simpa using hk) h
  refine wp_region_textG S path fl fz A _ hm hok hfok hfl hno hz hSa rfl hS hA ?_
  simpa [List.range_eq_range'] using h1

variable {o : Oper} {i : Nat} {rest : List Oper} {a : Act} {A : HP}
theorem LexGL.still {v : Value} (hf : fz i = none) (hw : Region.wanted o (yielded ops a.tmps) = true) (hv : ∀ w, S w → (execOp a.eval o).run P w = .ok (.value v) w)
    (h : LexGL P ops S path fz Q w0 (i + 1) rest (a.put o.dst v) A) : LexGL P ops S path fz Q w0 i (o :: rest) a A := .inl ⟨hf, v, .inr ⟨hw, hv⟩, h⟩
theorem LexGL.val (hf : fz i = none) (hw : Region.wanted o (yielded ops a.tmps) = true) (hi : i ∈ path)
    (he : ∀ w R, S w → Quiet w0 w → Holds w (A * R) → ∃ v w' A', (execOp a.eval o).run P w = .ok (.value v) w' ∧ S w' ∧ Quiet w0 w' ∧ Holds w' (A' * R) ∧ LexGL P ops S path fz Q w0 (i + 1) rest (a.put o.dst v) A') : LexGL P ops S path fz Q w0 i (o :: rest) a A :=
  .inr (.inl ⟨hf, hw, hi, fun w R h1 h2 h3 => by obtain ⟨v, w', A', e, h4, h5, h6, h⟩ := he w R h1 h2 h3; unfold Loud; rw [e]; exact ⟨h4, h5, A', h6, h⟩⟩)
theorem LexGL.store {A' : HP} (hf : fz i = none) (hw : Region.wanted o (yielded ops a.tmps) = true) (hi : i ∈ path)
    (he : ∀ w R, S w → Quiet w0 w → Holds w (A * R) → ∃ w', (execOp a.eval o).run P w = .ok .skip w' ∧ S w' ∧ Quiet w0 w' ∧ Holds w' (A' * R)) (h : LexGL P ops S path fz Q w0 (i + 1) rest (a.put o.dst undef) A') : LexGL P ops S path fz Q w0 i (o :: rest) a A :=
  .inr (.inl ⟨hf, hw, hi, fun w R h1 h2 h3 => by obtain ⟨w', e, h4, h5, h6⟩ := he w R h1 h2 h3; unfold Loud; rw [e]; exact ⟨h4, h5, A', h6, h⟩⟩)
theorem LexGL.made {ty : TypeId} {cs : List Value} {mk : Nat → Value} (hf : fz i = some (ty, cs, mk)) (hm : MadeAt P o a ty cs mk) (h : ∀ q : Nat, Live S w0 (bl q ty cs * A) → LexGL P ops S path fz Q w0 (i + 1) rest (a.put o.dst (mk q)) (bl q ty cs * A)) : LexGL P ops S path fz Q w0 i (o :: rest) a A := .inr (.inr ⟨ty, cs, mk, hf, hm, h⟩)
theorem LexGL.done (h : ∀ w, S w → Holds w A → Quiet w0 w → Q .normal a w) : LexGL P ops S path fz Q w0 i [] a A := h
def fz1 (i1 : Nat) (ty1 : TypeId) (cs1 : List Value) (mk : Nat → Value) : Nat → Option (TypeId × List Value × (Nat → Value)) := fun i => if i = i1 then some (ty1, cs1, mk) else none
theorem fz1_fl {i1 : Nat} {ty1 : TypeId} {cs1 : List Value} {mk : Nat → Value} : ∀ i, fz1 i1 ty1 cs1 mk i ≠ none → i ∈ [i1] := fun i h => by
  unfold fz1 at h
  split at h
  · subst_vars; simp
  · exact absurd rfl h
theorem fz1_no {i1 : Nat} {ty1 : TypeId} {cs1 : List Value} {mk : Nat → Value} : ∀ i ∈ [i1], fz1 i1 ty1 cs1 mk i ≠ none := fun i h => by
  simp only [List.mem_cons, List.not_mem_nil, or_false] at h
  unfold fz1
  rw [if_pos h]
  simp
theorem fz1_free {i1 : Nat} {o1 : Oper} {ty1 : TypeId} {cs1 : List Value} {mk : Nat → Value} (h1 : ops[i1]? = some o1) (hg : o1.guard = none) : FzFree ops (fz1 i1 ty1 cs1 mk) := fun i x h o ho => by
  unfold fz1 at h
  split at h
  · subst_vars
    rw [h1] at ho
    obtain rfl := Option.some.inj ho
    exact hg
  · cases h
end
end Go.Proofs.Ytfihmpkkpgmdhab

/-
  As LexG; from a store on (sw) nothing is asked of memory any more but the assertion.
-/
namespace Go.Proofs.Ytfihmpkkpgmdhab
set_option linter.unusedVariables false
open Go
section
variable {P : Program} {ops : Array Oper} {S : World → Prop} {path : List Nat} {fz : Nat → Option (TypeId × List Value × (Nat → Value))} {Q : Exit → Act → World → Prop} {w0 : World}
variable {sw : Nat}
/-- What is asked of memory: nothing from sw on. -/
def SS (S : World → Prop) (b : Bool) : World → Prop := fun w => b = false → S w
def sOf (ops : Array Oper) (S : World → Prop) (sw i : Nat) : World → Prop := if sw < i then fun _ => True else if hasEdge ops sw i = true then S else fun _ => True
/-- Ops that may stand ahead of one that is drawn now. -/
def Stg (ops : Array Oper) (path : List Nat) (fz : Nat → Option (TypeId × List Value × (Nat → Value))) (sw : Nat) (st : Bool) (p : Nat) : Prop :=
  (p < sw ∧ st = false) ∨ (sw < p ∧ st = true) ∨ (p < sw ∧ st = true ∧ p ∉ path ∧ fz p = none ∧ hasEdge ops sw p = false)
theorem Stg.lt {st : Bool} {p : Nat} (h : Stg ops path fz sw st p) (hp : p ∈ path ∨ fz p ≠ none) : decide (sw < p) = st ∧ decide (sw ≤ p) = st := by
  rcases h with ⟨h, rfl⟩ | ⟨h, rfl⟩ | ⟨h, rfl, h1, h2, _⟩
  · exact ⟨by simp; omega, by simp; omega⟩
  · exact ⟨by simp; omega, by simp; omega⟩
  · rcases hp with hp | hp
    · exact absurd hp h1
    · exact absurd h2 hp
theorem Stg.of {st : Bool} {p : Nat} (h : Stg ops path fz sw st p) {w : World} (hS : SS S st w) : sOf ops S sw p w := by
  unfold sOf
  rcases h with ⟨h, rfl⟩ | ⟨h, rfl⟩ | ⟨h, rfl, h1, h2, h3⟩
  · rw [if_neg (by omega)]
    split
    · exact hS rfl
    · trivial
  · rw [if_pos h]; trivial
  · rw [if_neg (by omega), h3]; simp
def LexK (P : Program) (ops : Array Oper) (S : World → Prop) (sw : Nat) (path : List Nat) (fz : Nat → Option (TypeId × List Value × (Nat → Value))) (Q : Exit → Act → World → Prop) (w0 : World) : List Nat → Act → HP → Prop
  | [], a, A => ∀ w, Holds w A → Quiet w0 w → Q .normal a w
  | i :: rest, a, A => ∃ o, ops[i]? = some o ∧
      ((fz i = none ∧ ∃ v, Yl P ops (sOf ops S sw i) o a v ∧ LexK P ops S sw path fz Q w0 rest (a.put o.dst v) A) ∨
       (fz i = none ∧ Region.wanted o (yielded ops a.tmps) = true ∧ i ∈ path ∧ ∀ w R, SS S (decide (sw < i)) w → Quiet w0 w → Holds w (A * R) → Loud P o a w fun v w' => SS S (decide (sw ≤ i)) w' ∧ Quiet w0 w' ∧ ∃ A', Holds w' (A' * R) ∧ LexK P ops S sw path fz Q w0 rest (a.put o.dst v) A') ∨
       (∃ ty cs mk, fz i = some (ty, cs, mk) ∧ MadeAt P o a ty cs mk ∧ ∀ q : Nat, Live (SS S (decide (sw < i))) w0 (bl q ty cs * A) → LexK P ops S sw path fz Q w0 rest (a.put o.dst (mk q)) (bl q ty cs * A)))
theorem SS.alloc {b : Bool} (hSa : ∀ w o, S w → S (w.alloc o)) {w : World} (h : SS S b w) (o : Obj) : SS S b (w.alloc o) := fun e => hSa _ _ (h e)
theorem LexK.pullF (hSa : ∀ w o, S w → S (w.alloc o)) {st : Bool} {i : Nat} {oi : Oper} {post : List Nat} {ty : TypeId} {cs : List Value} {mk : Nat → Value} (hi : ops[i]? = some oi) (hf : fz i = some (ty, cs, mk)) (hsi : decide (sw < i) = st) (hsel : ∀ (j : Nat) (o : Oper) cs b, ops[j]? = some o → o.op ≠ .select cs b) :
    ∀ (pre : List Nat) (a : Act) (A : HP), Live (SS S st) w0 A → (∀ p ∈ pre, Stg ops path fz sw st p) → (∀ p ∈ pre, ∀ o, ops[p]? = some o → o.apart ops oi = true) → LexK P ops S sw path fz Q w0 (pre ++ i :: post) a A →
      MadeAt P oi a ty cs mk ∧ ∀ q : Nat, Live (SS S st) w0 (bl q ty cs * A) → LexK P ops S sw path fz Q w0 (pre ++ post) (a.put oi.dst (mk q)) (bl q ty cs * A)
  | [], a, A, _, _, _, h => by
    obtain ⟨o, ho, h⟩ := h
    rw [hi] at ho
    obtain rfl := Option.some.inj ho
    rcases h with ⟨e, _⟩ | ⟨e, _⟩ | ⟨ty', cs', mk', e, hm, h⟩
    · rw [hf] at e; cases e
    · rw [hf] at e; cases e
    · rw [hf] at e
      simp only [Option.some.injEq, Prod.mk.injEq] at e
      obtain ⟨rfl, rfl, rfl⟩ := e
      rw [hsi] at h
      exact ⟨hm, h⟩
  | p :: pre, a, A, hlive, hstg, hap, h => by
    obtain ⟨op, hop, h⟩ := h
    obtain ⟨h1, h2, h3⟩ := Oper.apart_spec (hap p (by simp) op hop)
    have hsp := hstg p (by simp)
    have hstg' : ∀ q ∈ pre, Stg ops path fz sw st q := fun q hq => hstg q (by simp [hq])
    have hx := fun v => execOp_put (ops := ops) op (fun cs b => hsel p op cs b hop) a oi.dst v h3
    have hwp := fun v => wanted_put (ops := ops) op a oi.dst v h3
    have toM : ∀ u, MadeAt P oi (a.put op.dst u) ty cs mk → MadeAt P oi a ty cs mk := fun u hm w => by
      have := hm w
      rwa [execOp_put (ops := ops) oi (fun cs b => hsel i oi cs b hi) a op.dst u h1] at this
    rcases h with ⟨e, u, hu, h⟩ | ⟨e, hw, hp, h⟩ | ⟨ty', cs', mk', e, hm', h⟩
    · have ih := LexK.pullF hSa hi hf hsi hsel pre _ A hlive hstg' (fun q hq' => hap q (by simp [hq'])) h
      refine ⟨toM u ih.1, fun q hq => ⟨op, hop, .inl ⟨e, u, hu.same (hx _) (hwp _), ?_⟩⟩⟩
      rw [← Act.put_comm a u _ h2]
      exact ih.2 q hq
    · obtain ⟨d1, d2⟩ := hsp.lt (.inl hp)
      rw [d1, d2] at h
      refine ⟨?_, fun q hq => ⟨op, hop, .inr (.inl ⟨e, by rw [hwp]; exact hw, hp, fun w R hS hqu hA => ?_⟩)⟩⟩
      · obtain ⟨w, R, b1, b2, b3⟩ := hlive
        obtain ⟨u, w1, hS1, hq1, A1, hA1, hl1⟩ := (h w R b1 b2 b3).some
        exact toM u (LexK.pullF hSa hi hf hsi hsel pre _ A1 ⟨w1, R, hS1, hq1, hA1⟩ hstg' (fun q hq' => hap q (by simp [hq'])) hl1).1
      · rw [d1] at hS
        rw [d2]
        have hl := h w (bl q ty cs * R) hS hqu (hA.eq (by ac_rfl))
        unfold Loud at hl ⊢
        rw [hx]
        refine Loud.mono (o := op) (a := a) (w := w) hl fun v w' ⟨hS', hq', A', hA', hl'⟩ => ⟨hS', hq', bl q ty cs * A', hA'.eq (by ac_rfl), ?_⟩
        rw [← Act.put_comm a v _ h2]
        exact (LexK.pullF hSa hi hf hsi hsel pre _ A' ⟨w', bl q ty cs * R, hS', hq', hA'⟩ hstg' (fun q hq' => hap q (by simp [hq'])) hl').2 q ⟨w', R, hS', hq', hA'.eq (by ac_rfl)⟩
    · obtain ⟨d1, d2⟩ := hsp.lt (.inr (by rw [e]; simp))
      rw [d1] at h
      refine ⟨?_, fun q hq => ⟨op, hop, .inr (.inr ⟨ty', cs', mk', e, fun w => by rw [hx]; exact hm' w, fun q' hq' => ?_⟩)⟩⟩
      · obtain ⟨w, R, b1, b2, b3⟩ := hlive
        have hl0 : Live (SS S st) w0 (bl w.heap.size ty' cs' * A) := ⟨w.alloc (.cells cs'.toArray ty'), R, b1.alloc hSa _, b2.alloc _, (b3.allocB ty' cs').eq (by ac_rfl)⟩
        exact toM _ (LexK.pullF hSa hi hf hsi hsel pre _ _ hl0 hstg' (fun q hq' => hap q (by simp [hq'])) (h _ hl0)).1
      · rw [d1] at hq'
        have hl1 : Live (SS S st) w0 (bl q' ty' cs' * A) := by obtain ⟨w, R, a1, a2, a3⟩ := hq'; exact ⟨w, bl q ty cs * R, a1, a2, a3.eq (by ac_rfl)⟩
        have hl2 : Live (SS S st) w0 (bl q ty cs * (bl q' ty' cs' * A)) := by obtain ⟨w, R, a1, a2, a3⟩ := hq'; exact ⟨w, R, a1, a2, a3.eq (by ac_rfl)⟩
        have ih := (LexK.pullF hSa hi hf hsi hsel pre _ _ hl1 hstg' (fun q hq' => hap q (by simp [hq'])) (h q' hl1)).2 q hl2
        rw [← Act.put_comm a _ _ h2]
        rw [show bl q' ty' cs' * (bl q ty cs * A) = bl q ty cs * (bl q' ty' cs' * A) from by ac_rfl]
        exact ih

theorem LexK.pull (hSa : ∀ w o, S w → S (w.alloc o)) {st : Bool} {i : Nat} {oi : Oper} {post : List Nat} (hi : ops[i]? = some oi) (hq : i ∉ path) (hf : fz i = none) (hsi : ∀ w, SS S st w → sOf ops S sw i w) (hsel : ∀ (j : Nat) (o : Oper) cs b, ops[j]? = some o → o.op ≠ .select cs b) :
    ∀ (pre : List Nat) (a : Act) (A : HP), Live (SS S st) w0 A → (∀ p ∈ pre, Stg ops path fz sw st p) → (∀ p ∈ pre, ∀ o, ops[p]? = some o → o.apart ops oi = true) → LexK P ops S sw path fz Q w0 (pre ++ i :: post) a A →
      ∃ v, Yl P ops (sOf ops S sw i) oi a v ∧ LexK P ops S sw path fz Q w0 (pre ++ post) (a.put oi.dst v) A
  | [], a, A, _, _, _, h => by
    obtain ⟨o, ho, h⟩ := h
    rw [hi] at ho
    obtain rfl := Option.some.inj ho
    rcases h with ⟨_, h⟩ | ⟨_, _, hp, _⟩ | ⟨_, _, _, e, _⟩
    · exact h
    · exact absurd hp hq
    · rw [hf] at e; cases e
  | p :: pre, a, A, hlive, hstg, hap, h => by
    obtain ⟨op, hop, h⟩ := h
    obtain ⟨h1, h2, h3⟩ := Oper.apart_spec (hap p (by simp) op hop)
    have hsp := hstg p (by simp)
    have hstg' : ∀ q ∈ pre, Stg ops path fz sw st q := fun q hq => hstg q (by simp [hq])
    have toA : ∀ u v, Yl P ops (sOf ops S sw i) oi (a.put op.dst u) v → Yl P ops (sOf ops S sw i) oi a v := fun u v hy =>
      hy.same (execOp_put (ops := ops) oi (fun cs b => hsel i oi cs b hi) a op.dst u h1).symm (wanted_put oi a op.dst u h1).symm
    rcases h with ⟨e, u, hu, h⟩ | ⟨e, hw, hp, h⟩ | ⟨ty', cs', mk', e, hm', h⟩
    · obtain ⟨v, hv, hl⟩ := LexK.pull hSa hi hq hf hsi hsel pre _ A hlive hstg' (fun q hq' => hap q (by simp [hq'])) h
      refine ⟨v, toA u v hv, op, hop, .inl ⟨e, u, hu.same (execOp_put (ops := ops) op (fun cs b => hsel p op cs b hop) a oi.dst v h3) (wanted_put op a oi.dst v h3), ?_⟩⟩
      rw [← Act.put_comm a u v h2]
      exact hl
    · obtain ⟨d1, d2⟩ := hsp.lt (.inl hp)
      rw [d1, d2] at h
      obtain ⟨w, R, b1, b2, b3⟩ := hlive
      obtain ⟨u, w1, hS1, hq1, A1, hA1, hl1⟩ := (h w R b1 b2 b3).some
      obtain ⟨v, hv, _⟩ := LexK.pull hSa hi hq hf hsi hsel pre _ A1 ⟨w1, R, hS1, hq1, hA1⟩ hstg' (fun q hq' => hap q (by simp [hq'])) hl1
      refine ⟨v, toA u v hv, op, hop, .inr (.inl ⟨e, by rw [wanted_put op a oi.dst v h3]; exact hw, hp, fun w R hS hqu hA => ?_⟩)⟩
      rw [d1] at hS
      rw [d2]
      have hl := h w R hS hqu hA
      unfold Loud at hl ⊢
      rw [execOp_put (ops := ops) op (fun cs b => hsel p op cs b hop) a oi.dst v h3]
      refine Loud.mono (o := op) (a := a) (w := w) hl fun u' w' ⟨hS', hq', A', hA', hl'⟩ => ⟨hS', hq', A', hA', ?_⟩
      obtain ⟨v', hv', hl''⟩ := LexK.pull hSa hi hq hf hsi hsel pre _ A' ⟨w', R, hS', hq', hA'⟩ hstg' (fun q hq' => hap q (by simp [hq'])) hl'
      obtain rfl := Yl.unique (hsi _ hS') (toA u' v' hv') (toA u v hv)
      rw [← Act.put_comm a u' v' h2]
      exact hl''
    · obtain ⟨d1, d2⟩ := hsp.lt (.inr (by rw [e]; simp))
      rw [d1] at h
      obtain ⟨w, R, b1, b2, b3⟩ := hlive
      have hl0 : Live (SS S st) w0 (bl w.heap.size ty' cs' * A) := ⟨w.alloc (.cells cs'.toArray ty'), R, b1.alloc hSa _, b2.alloc _, (b3.allocB ty' cs').eq (by ac_rfl)⟩
      obtain ⟨v, hv, _⟩ := LexK.pull hSa hi hq hf hsi hsel pre _ _ hl0 hstg' (fun q hq' => hap q (by simp [hq'])) (h _ hl0)
      refine ⟨v, toA _ v hv, op, hop, .inr (.inr ⟨ty', cs', mk', e, fun w => by rw [execOp_put (ops := ops) op (fun cs b => hsel p op cs b hop) a oi.dst v h3]; exact hm' w, fun q' hq' => ?_⟩)⟩
      rw [d1] at hq'
      obtain ⟨v', hv', hl''⟩ := LexK.pull hSa hi hq hf hsi hsel pre _ _ hq' hstg' (fun q hq' => hap q (by simp [hq'])) (h q' hq')
      obtain rfl := Yl.unique (hsi _ b1) (toA _ v' hv') (toA _ v hv)
      rw [← Act.put_comm a _ v' h2]
      exact hl''

theorem LexK.pullL {i : Nat} {oi : Oper} {post : List Nat} (hi : ops[i]? = some oi) (hf : fz i = none) (hsel : ∀ (j : Nat) (o : Oper) cs b, ops[j]? = some o → o.op ≠ .select cs b) :
    ∀ (pre : List Nat) (a : Act) (A : HP), (∀ p ∈ pre, ∀ o, ops[p]? = some o → o.apart ops oi = true) → (∀ p ∈ pre, p ∉ path ∧ fz p = none) → LexK P ops S sw path fz Q w0 (pre ++ i :: post) a A →
      (∃ v, Yl P ops (sOf ops S sw i) oi a v ∧ LexK P ops S sw path fz Q w0 (pre ++ post) (a.put oi.dst v) A) ∨
      (Region.wanted oi (yielded ops a.tmps) = true ∧ ∀ w R, SS S (decide (sw < i)) w → Quiet w0 w → Holds w (A * R) → Loud P oi a w fun v w' => SS S (decide (sw ≤ i)) w' ∧ Quiet w0 w' ∧ ∃ A', Holds w' (A' * R) ∧ LexK P ops S sw path fz Q w0 (pre ++ post) (a.put oi.dst v) A')
  | [], a, A, _, _, h => by
    obtain ⟨o, ho, h⟩ := h
    rw [hi] at ho
    obtain rfl := Option.some.inj ho
    rcases h with ⟨_, h⟩ | ⟨_, hw, _, h⟩ | ⟨_, _, _, e, _⟩
    · exact .inl h
    · exact .inr ⟨hw, h⟩
    · rw [hf] at e; cases e
  | p :: pre, a, A, hap, hno, h => by
    obtain ⟨op, hop, h⟩ := h
    obtain ⟨h1, h2, h3⟩ := Oper.apart_spec (hap p (by simp) op hop)
    rcases h with ⟨e, u, hu, h⟩ | ⟨_, _, hp, _⟩ | ⟨_, _, _, e, _⟩
    case inr.inl => exact absurd hp (hno p (by simp)).1
    case inr.inr => rw [(hno p (by simp)).2] at e; cases e
    have he := execOp_put (ops := ops) oi (fun cs b => hsel i oi cs b hi) a op.dst u h1
    have hwp := wanted_put (ops := ops) oi a op.dst u h1
    have hu' : ∀ v, Yl P ops (sOf ops S sw p) op (a.put oi.dst v) u := fun v => hu.same (execOp_put (ops := ops) op (fun cs b => hsel p op cs b hop) a oi.dst v h3) (wanted_put op a oi.dst v h3)
    rcases LexK.pullL hi hf hsel pre _ A (fun q hq' => hap q (by simp [hq'])) (fun q hq' => hno q (by simp [hq'])) h with ⟨v, hv, hl⟩ | ⟨hw, hl⟩
    · refine .inl ⟨v, hv.same he.symm hwp.symm, op, hop, .inl ⟨e, u, hu' v, ?_⟩⟩
      rw [← Act.put_comm a u v h2]
      exact hl
    · refine .inr ⟨by rw [← hwp]; exact hw, fun w R hS hq hA => ?_⟩
      have hl := hl w R hS hq hA
      unfold Loud at hl ⊢
      rw [he] at hl
      refine Loud.mono (o := oi) (a := a) (w := w) hl fun v w' ⟨hS', hq', A', hA', hl'⟩ => ⟨hS', hq', A', hA', op, hop, .inl ⟨e, u, hu' v, ?_⟩⟩
      rw [← Act.put_comm a u v h2]
      exact hl'
/-- All behind sw in the text is behind it. -/
def swOk (ops : Array Oper) (path : List Nat) (sw : Nat) : Bool := path.contains sw && (List.range ops.size).all fun j => !decide (sw < j) || hasEdge ops j sw

/-- What floats is behind each loud one that stands behind it in the text. -/
def floatsK (ops : Array Oper) (path fl : List Nat) : Bool := path.all fun x => !fl.contains x && fl.all fun p => !decide (p < x) || (hasEdge ops x p || path.any fun z => decide (p < z) && decide (z < x) && hasEdge ops z p)

theorem wpAny_of_lexK (hSa : ∀ w o, S w → S (w.alloc o)) (hok : lexOk ops path = true) {fl : List Nat} (hfl : ∀ i, fz i ≠ none → i ∈ fl) (hfok : floatsK ops path fl = true) (hno : ∀ i ∈ fl, fz i ≠ none) (hz : FzFree ops fz) (hsw : swOk ops path sw = true) (R : HP) : ∀ (n : Nat) (rem : List Nat) (listed : Array Bool) (a : Act) (w : World) (A : HP), rem.length = n → rem.Pairwise (· < ·) → listed.size = ops.size →
    (∀ k, k ∈ rem ↔ k < ops.size ∧ listed.getD k true = false) → Closed ops listed → SS S (listed.getD sw false) w → Quiet w0 w → Holds w (A * R) → LexK P ops S sw path fz Q w0 rem a A → wpAny P .any ops Q n listed a w := by
  have hok' := hok
  simp only [lexOk, Bool.and_eq_true] at hok'
  obtain ⟨⟨hns, hall⟩, hpath⟩ := hok'
  have hsel := fun (j : Nat) (o : Oper) cs b => Region.noSelect_spec hns j o cs b
  have hfp : ∀ x ∈ path, x ∉ fl ∧ ∀ p ∈ fl, p < x → (hasEdge ops x p = true ∨ ∃ z ∈ path, (p < z ∧ z < x) ∧ hasEdge ops z p = true) := fun x hx => by
    have := List.all_eq_true.1 hfok x hx
    simp only [Bool.and_eq_true, Bool.not_eq_true', List.all_eq_true, Bool.or_eq_true, decide_eq_false_iff_not, List.any_eq_true, decide_eq_true_eq] at this
    refine ⟨(fun h => by rw [List.contains_iff_mem.2 h] at this; cases this.1), fun p hp hlt => ?_⟩
    rcases this.2 p hp with h | h
    · exact absurd hlt h
    · exact h
  have flst : ∀ (listed : Array Bool), Closed ops listed → ∀ x ∈ path, (∀ o, ops[x]? = some o → ∀ e ∈ o.after, Region.binds .any e = true → listed.getD e.on false = true) → ∀ p ∈ fl, p < x → listed.getD p false = true := fun listed hcl x hx hr p hp hlt => by
    rcases (hfp x hx).2 p hp hlt with h | ⟨z, hz, ⟨_, hzx⟩, h⟩
    · obtain ⟨o, ho, e, hem, hb, rfl⟩ := hasEdge_iff.1 h
      exact hr o ho e hem hb
    · obtain ⟨o, ho, e, hem, hb, rfl⟩ := hasEdge_iff.1 h
      exact hcl z o ho (path_listed hpath hcl x hx hr z hz hzx) e hem hb
  intro n
  induction n with
  | zero =>
    intro rem listed a w A hn _ _ hrem _ hS hq hA h
    obtain rfl := List.eq_nil_of_length_eq_zero hn
    refine ⟨?_, h w hA.left hq⟩
    refine List.eq_nil_iff_forall_not_mem.2 fun i hi => ?_
    obtain ⟨h0, o, ho, _⟩ := mem_ready.1 hi
    have := (hrem i).2 ⟨(Array.getElem?_eq_some_iff.1 ho).1, h0⟩
    cases this
  | succ n ih =>
    intro rem listed a w A hn hpw hsz hrem hcl hS hqu hA h
    have hedge : ∀ j oj, ops[j]? = some oj → (∀ e ∈ oj.after, Region.binds .any e = true → e.on < j) ∧ ∀ i, i < j → hasEdge ops j i = true ∨ ∀ oi, ops[i]? = some oi → oi.apart ops oj = true := by
      intro j oj hj
      have h1 := List.all_eq_true.1 hall j (List.mem_range.2 (Array.getElem?_eq_some_iff.1 hj).1)
      simp only [hj, Bool.and_eq_true] at h1
      refine ⟨fun e he hb => ?_, fun i hij => ?_⟩
      · have := Array.all_eq_true_iff_forall_mem.1 h1.1 e he
        simpa [hb] using this
      · have := List.all_eq_true.1 h1.2 i (List.mem_range.2 hij)
        simp only [Bool.or_eq_true] at this
        refine this.imp id fun h2 oi hoi => ?_
        simpa [hoi] using h2
    refine ⟨fun hr0 => ?_, fun i hi => ?_⟩
    · exfalso
      match rem, hn, hpw, hrem with
      | m :: rest, _, hpw, hrem =>
        have hm := (hrem m).1 (by simp)
        obtain ⟨om, hom⟩ : ∃ o, ops[m]? = some o := ⟨_, Array.getElem?_eq_getElem hm.1⟩
        have : m ∈ Region.ready .any ops listed := mem_ready.2 ⟨hm.2, om, hom, fun e he hb => by
          have hlt := (hedge m om hom).1 e he hb
          have hno : e.on ∉ m :: rest := by
            intro hmem
            rcases List.mem_cons.1 hmem with h1 | h1
            · omega
            · have := (List.pairwise_cons.1 hpw).1 _ h1; omega
          have hlt2 : e.on < listed.size := by omega
          have hg : ¬ listed.getD e.on true = false := fun hf => hno ((hrem e.on).2 ⟨by omega, hf⟩)
          simp [hlt2] at hg ⊢
          exact hg⟩
        rw [hr0] at this
        cases this
    · obtain ⟨h0, oi, hoi, hall'⟩ := mem_ready.1 hi
      have hilt := (Array.getElem?_eq_some_iff.1 hoi).1
      have him := (hrem i).2 ⟨hilt, h0⟩
      obtain ⟨pre, post, rfl⟩ := List.append_of_mem him
      have hpre : ∀ p ∈ pre, p < i := fun p hp => (List.pairwise_append.1 hpw).2.2 p hp i (by simp)
      have hun : ∀ p ∈ pre, listed.getD p false = false := fun p hp => by
        have := (hrem p).1 (by simp [hp])
        have hlt2 : p < listed.size := by omega
        simpa [hlt2] using this.2
      have hnoedge : ∀ p ∈ pre, hasEdge ops i p = true → False := fun p hp h1 => by
        obtain ⟨o', ho', e, he, hb, heq⟩ := hasEdge_iff.1 h1
        rw [hoi] at ho'
        obtain rfl := Option.some.inj ho'
        have := hall' e he hb
        rw [heq, hun p hp] at this
        cases this
      have hap : ∀ p ∈ pre, ∀ o, ops[p]? = some o → o.apart ops oi = true := fun p hp o ho => by
        rcases (hedge i oi hoi).2 p (hpre p hp) with h1 | h1
        · exact (hnoedge p hp h1).elim
        · exact h1 o ho
      have hne : ∀ k, k ∈ pre ++ post → k ≠ i := fun k hk hki => by
        subst hki
        rcases List.mem_append.1 hk with h1 | h1
        · exact Nat.lt_irrefl _ (hpre _ h1)
        · have := (List.pairwise_cons.1 (List.pairwise_append.1 hpw).2.1).1 _ h1; omega
      have hswp : sw ∈ path := by
        simp only [swOk, Bool.and_eq_true] at hsw
        exact List.contains_iff_mem.1 hsw.1
      have hswe : ∀ j, sw < j → j < ops.size → hasEdge ops j sw = true := fun j hj hjs => by
        simp only [swOk, Bool.and_eq_true, List.all_eq_true, Bool.or_eq_true, Bool.not_eq_true', decide_eq_false_iff_not] at hsw
        rcases hsw.2 j (List.mem_range.2 hjs) with h | h
        · exact absurd hj h
        · exact h
      have hsws : sw < ops.size ∨ listed.getD sw false = false := by
        by_cases h : sw < ops.size
        · exact .inl h
        · exact .inr (by rw [Array.getD_eq_getD_getElem?, Array.getElem?_eq_none (by omega)]; rfl)
      have hdone : ∀ p, hasEdge ops sw p = true → listed.getD sw false = true → listed.getD p false = true := fun p he hl => by
        obtain ⟨o', ho', e, hem, hb, rfl⟩ := hasEdge_iff.1 he
        exact hcl sw o' ho' hl e hem hb
      have hist : decide (sw < i) = listed.getD sw false ∨ (i < sw ∧ listed.getD sw false = true ∧ i ∉ path ∧ fz i = none ∧ hasEdge ops sw i = false) ∨ (i = sw) := by
        rcases Nat.lt_trichotomy i sw with hlt | heq | hgt
        · cases hls : listed.getD sw false with
          | false => left; simp; omega
          | true =>
            right; left
            have hnot : listed.getD i false = false := by
              have hlt2 : i < listed.size := by omega
              simp [hlt2] at h0 ⊢
              exact h0
            have hne2 : hasEdge ops sw i = false := by
              cases he : hasEdge ops sw i with
              | false => rfl
              | true => rw [hdone i he hls] at hnot; cases hnot
            refine ⟨hlt, rfl, fun hip => ?_, ?_, hne2⟩
            · have hl := path_listed hpath hcl sw hswp (fun o ho => hcl sw o ho hls) i hip hlt
              rw [hl] at hnot; cases hnot
            · refine Classical.byContradiction fun hf => ?_
              have := flst listed hcl sw hswp (fun o ho => hcl sw o ho hls) i (hfl i hf) hlt
              rw [this] at hnot; cases hnot
        · exact .inr (.inr heq)
        · left
          obtain ⟨o', ho', e, hem, hb, heq⟩ := hasEdge_iff.1 (hswe i hgt hilt)
          rw [hoi] at ho'
          obtain rfl := Option.some.inj ho'
          have := hall' e hem hb
          rw [heq] at this
          rw [this]
          simp; omega
      have hpstg : ∀ p ∈ pre, Stg ops path fz sw (listed.getD sw false) p := fun p hp => by
        have hpi := hpre p hp
        have hpn := hun p hp
        rcases Nat.lt_trichotomy p sw with hlt | heq | hgt
        · cases hls : listed.getD sw false with
          | false => exact .inl ⟨hlt, rfl⟩
          | true =>
            right; right
            have hne2 : hasEdge ops sw p = false := by
              cases he : hasEdge ops sw p with
              | false => rfl
              | true => rw [hdone p he hls] at hpn; cases hpn
            refine ⟨hlt, rfl, fun hip => ?_, ?_, hne2⟩
            · have hl := path_listed hpath hcl sw hswp (fun o ho => hcl sw o ho hls) p hip hlt
              rw [hl] at hpn; cases hpn
            · refine Classical.byContradiction fun hf => ?_
              have := flst listed hcl sw hswp (fun o ho => hcl sw o ho hls) p (hfl p hf) hlt
              rw [this] at hpn; cases hpn
        · subst heq
          exact (hnoedge p hp (hswe i (by omega) hilt)).elim
        · right; left
          refine ⟨hgt, ?_⟩
          rcases hist with h | ⟨h, _⟩ | h
          · rw [← h]; simp; omega
          · omega
          · omega
      have hset : ∀ k, k ≠ i → (listed.setIfInBounds i true).getD k false = listed.getD k false := fun k hk => getD_set_ne false (Ne.symm hk)
      have hseti : i = sw → (listed.setIfInBounds i true).getD sw false = true := fun h => by
        subst h
        have hlt2 : i < listed.size := by omega
        simp [Array.getD_eq_getD_getElem?, hlt2]
      have next : ∀ a' w' A', SS S ((listed.setIfInBounds i true).getD sw false) w' → Quiet w0 w' → Holds w' (A' * R) → LexK P ops S sw path fz Q w0 (pre ++ post) a' A' → wpAny P .any ops Q n (listed.setIfInBounds i true) a' w' := fun a' w' A' hS' hq' hA' hl => by
        refine ih (pre ++ post) _ a' w' A' (by simp at hn ⊢; omega) ?_ (by simpa using hsz) (fun k => ?_) ?_ hS' hq' hA' hl
        · refine List.Pairwise.sublist ?_ hpw
          exact List.Sublist.append (List.Sublist.refl _) (List.sublist_cons_self _ _)
        · by_cases hk : k = i
          · subst hk
            constructor
            · intro hm; exact absurd rfl (hne _ hm)
            · intro hm
              have hlt2 : k < listed.size := by omega
              simp [hlt2] at hm
          · rw [getD_set_ne true (Ne.symm hk), ← hrem k]
            simp [hk]
        · intro j o ho hj e he hb
          refine getD_set_true ?_
          by_cases hji : i = j
          · subst hji
            rw [hoi] at ho
            obtain rfl := Option.some.inj ho
            exact hall' e he hb
          · rw [getD_set_ne false hji] at hj
            exact hcl j o ho hj e he hb
      have h0' : listed.getD i false = false := by
        have hlt2 : i < listed.size := by omega
        simp [hlt2] at h0 ⊢
        exact h0
      have hSn : SS S ((listed.setIfInBounds i true).getD sw false) w := fun e => by
        by_cases h : i = sw
        · rw [hseti h] at e; cases e
        · rw [hset sw (Ne.symm h)] at e; exact hS e
      have hSi : sOf ops S sw i w := by
        rcases hist with h | ⟨h1, h2, h3, h4, h5⟩ | h
        · unfold sOf
          by_cases hlt : sw < i
          · rw [if_pos hlt]; trivial
          · rw [if_neg hlt]
            split
            · exact hS (by rw [← h]; simp; omega)
            · trivial
        · unfold sOf
          rw [if_neg (by omega), h5]; simp
        · subst h
          unfold sOf
          rw [if_neg (by omega)]
          split
          · exact hS h0'
          · trivial
      have fin : ∀ v, Yl P ops (sOf ops S sw i) oi a v → LexK P ops S sw path fz Q w0 (pre ++ post) (a.put oi.dst v) A → wpOp P ops Q i (wpAny P .any ops Q n (listed.setIfInBounds i true)) a w := fun v hv hl => by
        unfold wpOp
        simp only [hoi]
        rcases hv with ⟨hw, rfl⟩ | ⟨hw, hv⟩
        · simp only [hw, Bool.false_eq_true, if_false]
          exact next _ _ A hSn hqu hA hl
        · simp only [hw, if_true]
          refine .inl ?_
          unfold Oper.wp
          rw [hv w hSi]
          exact next _ _ A hSn hqu hA hl
      by_cases hip : i ∈ path
      · have hif : fz i = none := by
          refine Classical.byContradiction fun hf => (hfp i hip).1 (hfl i hf)
        have hnp : ∀ p ∈ pre, p ∉ path ∧ fz p = none := fun p hp => by
          refine ⟨fun hpp => ?_, ?_⟩
          · have := path_listed hpath hcl i hip (fun o ho => by
              rw [hoi] at ho
              obtain rfl := Option.some.inj ho
              exact hall') p hpp (hpre p hp)
            rw [hun p hp] at this
            cases this
          · refine Classical.byContradiction fun hf => ?_
            have := flst listed hcl i hip (fun o ho => by
              rw [hoi] at ho
              obtain rfl := Option.some.inj ho
              exact hall') p (hfl p hf) (hpre p hp)
            rw [hun p hp] at this
            cases this
        rcases LexK.pullL hoi hif hsel pre a A hap hnp h with ⟨v, hv, hl⟩ | ⟨hw, hl⟩
        · exact fin v hv hl
        · unfold wpOp
          simp only [hoi, hw, if_true]
          have hst1 : SS S (decide (sw < i)) w := by
            rcases hist with h | ⟨_, _, h3, _⟩ | h
            · rw [h]; exact hS
            · exact absurd hip h3
            · subst h; intro _; exact hS h0'
          refine .inl ((hl w R hst1 hqu hA).wp fun v w' ⟨hS', hq', A', hA', hl'⟩ => next _ _ A' ?_ hq' hA' hl')
          intro e
          refine hS' ?_
          by_cases h : i = sw
          · rw [hseti h] at e; cases e
          · rw [hset sw (Ne.symm h)] at e
            rcases hist with h' | ⟨_, _, h3, _⟩ | h'
            · rw [e] at h'; simp at h' ⊢; omega
            · exact absurd hip h3
            · exact absurd h' h
      · cases hf : fz i with
        | none =>
          have hsiu : ∀ w, SS S (listed.getD sw false) w → sOf ops S sw i w := fun w hS => by
            rcases hist with h | ⟨h1, h2, h3, h4, h5⟩ | h
            · unfold sOf
              by_cases hlt : sw < i
              · rw [if_pos hlt]; trivial
              · rw [if_neg hlt]
                split
                · exact hS (by rw [← h]; simp; omega)
                · trivial
            · unfold sOf
              rw [if_neg (by omega), h5]; simp
            · subst h
              exact absurd hswp hip
          obtain ⟨v, hv, hl⟩ := LexK.pull (st := listed.getD sw false) hSa hoi hip hf hsiu hsel pre a A ⟨w, R, hS, hqu, hA⟩ hpstg hap h
          exact fin v hv hl
        | some x =>
          obtain ⟨ty, cs, mk⟩ := x
          have hg := hz i _ hf oi hoi
          have hsif : decide (sw < i) = listed.getD sw false := by
            rcases hist with h | ⟨_, _, _, h4, _⟩ | h
            · exact h
            · rw [hf] at h4; cases h4
            · subst h; exact absurd hswp hip
          have hSal : SS S ((listed.setIfInBounds i true).getD sw false) (w.alloc (.cells cs.toArray ty)) := fun e => hSa _ _ (hSn e)
          have hA' : Holds (w.alloc (.cells cs.toArray ty)) (bl w.heap.size ty cs * A * R) := (hA.allocB ty cs).eq (by ac_rfl)
          obtain ⟨hx, hl⟩ := LexK.pullF (st := listed.getD sw false) hSa hoi hf hsif hsel pre a A ⟨w, R, hS, hqu, hA⟩ hpstg hap h
          have hl := hl w.heap.size ⟨_, R, hS.alloc hSa _, hqu.alloc _, hA'⟩
          unfold wpOp
          have hw : Region.wanted oi (yielded ops a.tmps) = true := by unfold Region.wanted; rw [hg]
          simp only [hoi, hw, if_true]
          refine .inl ?_
          unfold Oper.wp
          rw [hx w]
          exact next _ _ _ hSal (hqu.alloc _) hA' hl

def LexKL (P : Program) (ops : Array Oper) (S : World → Prop) (sw : Nat) (path : List Nat) (fz : Nat → Option (TypeId × List Value × (Nat → Value))) (Q : Exit → Act → World → Prop) (w0 : World) : Nat → List Oper → Act → HP → Prop
  | _, [], a, A => ∀ w, Holds w A → Quiet w0 w → Q .normal a w
  | i, o :: rest, a, A =>
      ((fz i = none ∧ ∃ v, Yl P ops (sOf ops S sw i) o a v ∧ LexKL P ops S sw path fz Q w0 (i + 1) rest (a.put o.dst v) A) ∨
       (fz i = none ∧ Region.wanted o (yielded ops a.tmps) = true ∧ i ∈ path ∧ ∀ w R, SS S (decide (sw < i)) w → Quiet w0 w → Holds w (A * R) → Loud P o a w fun v w' => SS S (decide (sw ≤ i)) w' ∧ Quiet w0 w' ∧ ∃ A', Holds w' (A' * R) ∧ LexKL P ops S sw path fz Q w0 (i + 1) rest (a.put o.dst v) A') ∨
       (∃ ty cs mk, fz i = some (ty, cs, mk) ∧ MadeAt P o a ty cs mk ∧ ∀ q : Nat, Live (SS S (decide (sw < i))) w0 (bl q ty cs * A) → LexKL P ops S sw path fz Q w0 (i + 1) rest (a.put o.dst (mk q)) (bl q ty cs * A)))
theorem LexK.of_list : ∀ (l : List Oper) (i : Nat) (a : Act) (A : HP), (∀ k o, l[k]? = some o → ops[i + k]? = some o) → LexKL P ops S sw path fz Q w0 i l a A → LexK P ops S sw path fz Q w0 (List.range' i l.length) a A
  | [], _, _, _, _, h => h
  | o :: l, i, a, A, hl, h => by
    have hl' : ∀ k o, l[k]? = some o → ops[i + 1 + k]? = some o := fun k o hk => by
      have := hl (k + 1) o hk
      rwa [show i + (k + 1) = i + 1 + k by omega] at this
    refine ⟨o, hl 0 o rfl, ?_⟩
    rcases h with ⟨e, v, hv, h⟩ | ⟨e, hw, hp, h⟩ | ⟨ty, cs, mk, e, hm, h⟩
    · exact .inl ⟨e, v, hv, LexK.of_list l (i + 1) _ _ hl' h⟩
    · exact .inr (.inl ⟨e, hw, hp, fun w R h1 h2 h3 => (h w R h1 h2 h3).mono fun v w' ⟨h4, h5, A', h6, h7⟩ => ⟨h4, h5, A', h6, LexK.of_list l (i + 1) _ _ hl' h7⟩⟩)
    · exact .inr (.inr ⟨ty, cs, mk, e, hm, fun q hq => LexK.of_list l (i + 1) _ _ hl' (h q hq)⟩)
theorem wp_region_textK {id : Nat} {a : Act} {w : World} (S : World → Prop) (path fl : List Nat) (fz : Nat → Option (TypeId × List Value × (Nat → Value))) (A : HP) (rem : List Nat) (hm : P.follows .mixedOrders = true) (hok : lexOk ops path = true)
    (hfok : floatsK ops path fl = true) (hfl : ∀ i, fz i ≠ none → i ∈ fl) (hno : ∀ i ∈ fl, fz i ≠ none) (hz : FzFree ops fz) (hsw : swOk ops path sw = true) (hSa : ∀ w o, S w → S (w.alloc o)) (hr : List.range ops.size = rem) (hS : S w.drew) (hA : Holds w.drew A)
    (h : LexK P ops S sw path fz Q w.drew rem a A) : (Code.region id ops true).wp P Q a w := by
  refine wp_region_any hm ?_
  subst hr
  have hemp : Holds w.drew (A * HP.emp) := by
    obtain ⟨F, hF⟩ := hA
    exact ⟨F, F, fun _ => False, fun _ _ h => h, fun k => by simp, hF, fun k h => h⟩
  refine wpAny_of_lexK (S := S) hSa hok hfl hfok hno hz hsw HP.emp ops.size (List.range ops.size) _ a _ A (by simp) List.pairwise_lt_range (by simp) (fun k => ?_) ?_ (fun _ => hS) (Quiet.refl _) hemp h
  · by_cases hk : k < ops.size <;> simp [hk]
  · intro j o _ hj
    by_cases hlt : j < ops.size <;> simp [hlt] at hj
theorem wp_region_lexK {l : List Oper} {id : Nat} {a : Act} {w : World} (S : World → Prop) (path fl : List Nat) (fz : Nat → Option (TypeId × List Value × (Nat → Value))) (A : HP) (hm : P.follows .mixedOrders = true) (hok : lexOk l.toArray path = true)
    (hfok : floatsK l.toArray path fl = true) (hfl : ∀ i, fz i ≠ none → i ∈ fl) (hno : ∀ i ∈ fl, fz i ≠ none) (hz : FzFree l.toArray fz) (hsw : swOk l.toArray path sw = true) (hSa : ∀ w o, S w → S (w.alloc o)) (hS : S w.drew) (hA : Holds w.drew A)
    (h : LexKL P l.toArray S sw path fz Q w.drew 0 l a A) : (Code.region id l.toArray true).wp P Q a w := by
  have h1 := LexK.of_list (ops := l.toArray) l 0 a A (fun k o hk => by simpa using hk) h
  refine wp_region_textK S path fl fz A _ hm hok hfok hfl hno hz hsw hSa rfl hS hA ?_
  simpa [List.range_eq_range'] using h1

variable {o : Oper} {i : Nat} {rest : List Oper} {a : Act} {A : HP}
theorem LexKL.still {v : Value} (hf : fz i = none) (hw : Region.wanted o (yielded ops a.tmps) = true) (hv : ∀ w, sOf ops S sw i w → (execOp a.eval o).run P w = .ok (.value v) w)
    (h : LexKL P ops S sw path fz Q w0 (i + 1) rest (a.put o.dst v) A) : LexKL P ops S sw path fz Q w0 i (o :: rest) a A := .inl ⟨hf, v, .inr ⟨hw, hv⟩, h⟩
theorem LexKL.val (hf : fz i = none) (hw : Region.wanted o (yielded ops a.tmps) = true) (hi : i ∈ path)
    (he : ∀ w R, SS S (decide (sw < i)) w → Quiet w0 w → Holds w (A * R) → ∃ v w' A', (execOp a.eval o).run P w = .ok (.value v) w' ∧ SS S (decide (sw ≤ i)) w' ∧ Quiet w0 w' ∧ Holds w' (A' * R) ∧ LexKL P ops S sw path fz Q w0 (i + 1) rest (a.put o.dst v) A') : LexKL P ops S sw path fz Q w0 i (o :: rest) a A :=
  .inr (.inl ⟨hf, hw, hi, fun w R h1 h2 h3 => by obtain ⟨v, w', A', e, h4, h5, h6, h⟩ := he w R h1 h2 h3; unfold Loud; rw [e]; exact ⟨h4, h5, A', h6, h⟩⟩)
theorem LexKL.store {A' : HP} (hf : fz i = none) (hw : Region.wanted o (yielded ops a.tmps) = true) (hi : i ∈ path)
    (he : ∀ w R, SS S (decide (sw < i)) w → Quiet w0 w → Holds w (A * R) → ∃ w', (execOp a.eval o).run P w = .ok .skip w' ∧ SS S (decide (sw ≤ i)) w' ∧ Quiet w0 w' ∧ Holds w' (A' * R)) (h : LexKL P ops S sw path fz Q w0 (i + 1) rest (a.put o.dst undef) A') : LexKL P ops S sw path fz Q w0 i (o :: rest) a A :=
  .inr (.inl ⟨hf, hw, hi, fun w R h1 h2 h3 => by obtain ⟨w', e, h4, h5, h6⟩ := he w R h1 h2 h3; unfold Loud; rw [e]; exact ⟨h4, h5, A', h6, h⟩⟩)
theorem LexKL.made {ty : TypeId} {cs : List Value} {mk : Nat → Value} (hf : fz i = some (ty, cs, mk)) (hm : MadeAt P o a ty cs mk) (h : ∀ q : Nat, Live (SS S (decide (sw < i))) w0 (bl q ty cs * A) → LexKL P ops S sw path fz Q w0 (i + 1) rest (a.put o.dst (mk q)) (bl q ty cs * A)) : LexKL P ops S sw path fz Q w0 i (o :: rest) a A := .inr (.inr ⟨ty, cs, mk, hf, hm, h⟩)
theorem LexKL.done (h : ∀ w, Holds w A → Quiet w0 w → Q .normal a w) : LexKL P ops S sw path fz Q w0 i [] a A := h
end
end Go.Proofs.Ytfihmpkkpgmdhab
