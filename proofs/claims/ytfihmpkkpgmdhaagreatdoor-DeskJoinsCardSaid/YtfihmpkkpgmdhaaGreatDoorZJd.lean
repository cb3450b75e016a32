/-
  What the proof of DeskJoins leans on: plain definitions and laws, and contracts of functions that it reaches. No condition besides those that each theorem names.
-/
import Derived.Orders
import Derived.WalkKit
import Derived.Test.YtfihmpkkpgmdhaaGreatDoorZJc
import Derived.RegionTactic
import Derived.BigRegion
import Derived.Test.YtfihmpkkpgmdhaaGreatDoorZJb
/-
  A region that draws its order, walked in the order of the text.
  Each operation is either still (it yields one value in every world of a class S, and leaves the world alone) or loud (a call, a store, a read of what was just written); the loud ones stand on a path of direct edges, so that they come one behind the other in every order.
  Then whatever order is drawn, the frame and the world at the end are those of the walk in the order of the text.
-/
namespace Go.Proofs.YtfihmpkkpgmdhaaGreatDoor
open Go
section
variable {P : Program} {ops : Array Oper} {S : World → Prop} {path : List Nat} {Q : Exit → Act → World → Prop}

def loudUpon (P : Program) (K : Value → World → Prop) : Result Next → Prop
  | .ok (.value v) w' => K v w'
  | .ok .skip w' => K undef w'
  | .ok (.enter f args) w' => Calls P f args w' fun e w'' => ∃ v, e = .returned v ∧ K v w''
  | _ => False
def Loud (P : Program) (o : Oper) (a : Act) (w : World) (K : Value → World → Prop) : Prop := loudUpon P K ((execOp a.eval o).run P w)
theorem Loud.mono {o : Oper} {a : Act} {w : World} {K K' : Value → World → Prop} (h : Loud P o a w K) (hk : ∀ v w', K v w' → K' v w') : Loud P o a w K' := by
  unfold Loud at *
  generalize (execOp a.eval o).run P w = r at *
  cases r with
  | ok n w' =>
    cases n <;> simp only [loudUpon] at h ⊢
    case value => exact hk _ _ h
    case skip => exact hk _ _ h
    case enter f args => exact h.mono fun e w'' ⟨v, he, hh⟩ => ⟨v, he, hk _ _ hh⟩
  | halt x w' => exact h
theorem Loud.some {o : Oper} {a : Act} {w : World} {K : Value → World → Prop} (h : Loud P o a w K) : ∃ v w', K v w' := by
  unfold Loud at *
  generalize (execOp a.eval o).run P w = r at *
  cases r with
  | ok n w' =>
    cases n <;> simp only [loudUpon] at h
    case value => exact ⟨_, _, h⟩
    case skip => exact ⟨_, _, h⟩
    case enter f args =>
      obtain ⟨e, w1, fr, ⟨v, _, hk⟩, _⟩ := h []
      exact ⟨v, w1, hk⟩
  | halt x w' => exact h.elim
theorem Loud.wp {o : Oper} {a : Act} {w : World} {K : Value → World → Prop} {K' : Act → World → Prop} (h : Loud P o a w K) (hk : ∀ v w', K v w' → K' (a.put o.dst v) w') : o.wp P a w K' Q := by
  unfold Loud at h
  unfold Oper.wp
  generalize (execOp a.eval o).run P w = r at *
  cases r with
  | ok n w' =>
    cases n <;> simp only [loudUpon] at h <;> simp only [Oper.upon]
    case value => exact hk _ _ h
    case skip => exact hk _ _ h
    case enter f args => exact h.mono fun e w'' ⟨v, he, hh⟩ => by subst he; exact hk _ _ hh
  | halt x w' => exact h.elim

/-- One value, in every world of the class; 'undef' where the guard says no. -/
def Yl (P : Program) (ops : Array Oper) (S : World → Prop) (o : Oper) (a : Act) (v : Value) : Prop :=
  (Region.wanted o (yielded ops a.tmps) = false ∧ v = undef) ∨ (Region.wanted o (yielded ops a.tmps) = true ∧ ∀ w, S w → (execOp a.eval o).run P w = .ok (.value v) w)
theorem Yl.same {o : Oper} {a a' : Act} {v : Value} (h : Yl P ops S o a v) (he : execOp a'.eval o = execOp a.eval o) (hw : Region.wanted o (yielded ops a'.tmps) = Region.wanted o (yielded ops a.tmps)) : Yl P ops S o a' v := by
  unfold Yl at *
  rw [he, hw]
  exact h
theorem Yl.unique {o : Oper} {a : Act} {v v' : Value} {w : World} (hS : S w) (h : Yl P ops S o a v) (h' : Yl P ops S o a v') : v = v' := by
  rcases h with ⟨h1, rfl⟩ | ⟨h1, h2⟩ <;> rcases h' with ⟨h3, rfl⟩ | ⟨h3, h4⟩
  · rfl
  · rw [h1] at h3; cases h3
  · rw [h1] at h3; cases h3
  · have := (h2 w hS).symm.trans (h4 w hS)
    simpa using this

def Lex (P : Program) (ops : Array Oper) (S : World → Prop) (path : List Nat) (Q : Exit → Act → World → Prop) : List Nat → Act → World → Prop
  | [], a, w => Q .normal a w
  | i :: rest, a, w => ∃ o, ops[i]? = some o ∧
      ((∃ v, Yl P ops S o a v ∧ Lex P ops S path Q rest (a.put o.dst v) w) ∨
       (Region.wanted o (yielded ops a.tmps) = true ∧ i ∈ path ∧ Loud P o a w fun v w' => S w' ∧ Lex P ops S path Q rest (a.put o.dst v) w'))

theorem Lex.pull {i : Nat} {oi : Oper} {post : List Nat} (hi : ops[i]? = some oi) (hq : i ∉ path) (hsel : ∀ (j : Nat) (o : Oper) cs b, ops[j]? = some o → o.op ≠ .select cs b) :
    ∀ (pre : List Nat) (a : Act) (w : World), S w → (∀ p ∈ pre, ∀ o, ops[p]? = some o → o.apart ops oi = true) → Lex P ops S path Q (pre ++ i :: post) a w →
      ∃ v, Yl P ops S oi a v ∧ Lex P ops S path Q (pre ++ post) (a.put oi.dst v) w
  | [], a, w, _, _, h => by
    obtain ⟨o, ho, h⟩ := h
    rw [hi] at ho
    obtain rfl := Option.some.inj ho
    rcases h with h | ⟨_, hp, _⟩
    · exact h
    · exact absurd hp hq
  | p :: pre, a, w, hS, hap, h => by
    obtain ⟨op, hop, h⟩ := h
    obtain ⟨h1, h2, h3⟩ := Oper.apart_spec (hap p (by simp) op hop)
    have toA : ∀ u v, Yl P ops S oi (a.put op.dst u) v → Yl P ops S oi a v := fun u v hy =>
      hy.same (execOp_put (ops := ops) oi (fun cs b => hsel i oi cs b hi) a op.dst u h1).symm (wanted_put oi a op.dst u h1).symm
    rcases h with ⟨u, hu, h⟩ | ⟨hw, hp, h⟩
    · obtain ⟨v, hv, hl⟩ := Lex.pull hi hq hsel pre _ w hS (fun q hq' => hap q (by simp [hq'])) h
      refine ⟨v, toA u v hv, op, hop, .inl ⟨u, hu.same (execOp_put (ops := ops) op (fun cs b => hsel p op cs b hop) a oi.dst v h3) (wanted_put op a oi.dst v h3), ?_⟩⟩
      rw [← Act.put_comm a u v h2]
      exact hl
    · obtain ⟨u, w1, hS1, hl1⟩ := h.some
      obtain ⟨v, hv, _⟩ := Lex.pull hi hq hsel pre _ w1 hS1 (fun q hq' => hap q (by simp [hq'])) hl1
      refine ⟨v, toA u v hv, op, hop, .inr ⟨by rw [wanted_put op a oi.dst v h3]; exact hw, hp, ?_⟩⟩
      unfold Loud at h ⊢
      rw [execOp_put (ops := ops) op (fun cs b => hsel p op cs b hop) a oi.dst v h3]
      refine Loud.mono (o := op) (a := a) (w := w) h fun u' w' ⟨hS', hl'⟩ => ⟨hS', ?_⟩
      obtain ⟨v', hv', hl''⟩ := Lex.pull hi hq hsel pre _ w' hS' (fun q hq' => hap q (by simp [hq'])) hl'
      obtain rfl := Yl.unique hS' (toA u' v' hv') (toA u v hv)
      rw [← Act.put_comm a u' v' h2]
      exact hl''
theorem Lex.pullL {i : Nat} {oi : Oper} {post : List Nat} (hi : ops[i]? = some oi) (hsel : ∀ (j : Nat) (o : Oper) cs b, ops[j]? = some o → o.op ≠ .select cs b) :
    ∀ (pre : List Nat) (a : Act) (w : World), S w → (∀ p ∈ pre, ∀ o, ops[p]? = some o → o.apart ops oi = true) → (∀ p ∈ pre, p ∉ path) → Lex P ops S path Q (pre ++ i :: post) a w →
      (∃ v, Yl P ops S oi a v ∧ Lex P ops S path Q (pre ++ post) (a.put oi.dst v) w) ∨
      (Region.wanted oi (yielded ops a.tmps) = true ∧ Loud P oi a w fun v w' => S w' ∧ Lex P ops S path Q (pre ++ post) (a.put oi.dst v) w')
  | [], a, w, _, _, _, h => by
    obtain ⟨o, ho, h⟩ := h
    rw [hi] at ho
    obtain rfl := Option.some.inj ho
    rcases h with h | ⟨hw, _, h⟩
    · exact .inl h
    · exact .inr ⟨hw, h⟩
  | p :: pre, a, w, hS, hap, hno, h => by
    obtain ⟨op, hop, h⟩ := h
    obtain ⟨h1, h2, h3⟩ := Oper.apart_spec (hap p (by simp) op hop)
    rcases h with ⟨u, hu, h⟩ | ⟨_, hp, _⟩
    case inr => exact absurd hp (hno p (by simp))
    have he := execOp_put (ops := ops) oi (fun cs b => hsel i oi cs b hi) a op.dst u h1
    have hwp := wanted_put (ops := ops) oi a op.dst u h1
    have hu' : ∀ v, Yl P ops S op (a.put oi.dst v) u := fun v => hu.same (execOp_put (ops := ops) op (fun cs b => hsel p op cs b hop) a oi.dst v h3) (wanted_put op a oi.dst v h3)
    rcases Lex.pullL hi hsel pre _ w hS (fun q hq' => hap q (by simp [hq'])) (fun q hq' => hno q (by simp [hq'])) h with ⟨v, hv, hl⟩ | ⟨hw, hl⟩
    · refine .inl ⟨v, hv.same he.symm hwp.symm, op, hop, .inl ⟨u, hu' v, ?_⟩⟩
      rw [← Act.put_comm a u v h2]
      exact hl
    · refine .inr ⟨by rw [← hwp]; exact hw, ?_⟩
      unfold Loud at hl ⊢
      rw [he] at hl
      refine Loud.mono (o := oi) (a := a) (w := w) hl fun v w' ⟨hS', hl'⟩ => ⟨hS', op, hop, .inl ⟨u, hu' v, ?_⟩⟩
      rw [← Act.put_comm a u v h2]
      exact hl'

def hasEdge (ops : Array Oper) (j i : Nat) : Bool := match ops[j]? with | some o => o.after.any fun e => Region.binds .any e && e.on == i | none => false
/-- What is asked of the region, and of the path of its loud ones. -/
def lexOk (ops : Array Oper) (path : List Nat) : Bool :=
  Region.noSelect ops &&
  ((List.range ops.size).all fun j => match ops[j]? with
    | some oj => oj.after.all (fun e => !Region.binds .any e || decide (e.on < j)) && (List.range j).all fun i => hasEdge ops j i || match ops[i]? with | some oi => oi.apart ops oj | none => true
    | none => true) &&
  path.all fun x => path.all fun y => !decide (y < x) || path.any fun z => decide (y ≤ z) && decide (z < x) && hasEdge ops x z

theorem hasEdge_iff {j i : Nat} : hasEdge ops j i = true ↔ ∃ o, ops[j]? = some o ∧ ∃ e ∈ o.after, Region.binds .any e = true ∧ e.on = i := by
  unfold hasEdge
  cases h : ops[j]? with
  | none => simp
  | some o =>
    simp only [Array.any_eq_true, Bool.and_eq_true, beq_iff_eq, Option.some.injEq, exists_eq_left']
    constructor
    · rintro ⟨k, hk, h1⟩
      exact ⟨_, Array.getElem_mem hk, h1⟩
    · rintro ⟨e, he, h1⟩
      obtain ⟨k, hk, rfl⟩ := Array.mem_iff_getElem.1 he
      exact ⟨k, hk, h1⟩

def Closed (ops : Array Oper) (listed : Array Bool) : Prop := ∀ j o, ops[j]? = some o → listed.getD j false = true → ∀ e ∈ o.after, Region.binds .any e = true → listed.getD e.on false = true

theorem path_listed {listed : Array Bool} (hp : (path.all fun x => path.all fun y => !decide (y < x) || path.any fun z => decide (y ≤ z) && decide (z < x) && hasEdge ops x z) = true) (hc : Closed ops listed) :
    ∀ (x : Nat), x ∈ path → (∀ o, ops[x]? = some o → ∀ e ∈ o.after, Region.binds .any e = true → listed.getD e.on false = true) → ∀ y ∈ path, y < x → listed.getD y false = true := by
  intro x
  induction x using Nat.strongRecOn with
  | _ x ih =>
    intro hx hr y hy hyx
    have h := List.all_eq_true.1 (List.all_eq_true.1 hp x hx) y hy
    simp only [hyx, decide_true, Bool.not_true, Bool.false_or, List.any_eq_true, Bool.and_eq_true, decide_eq_true_eq] at h
    obtain ⟨z, hz, ⟨hyz, hzx⟩, he⟩ := h
    obtain ⟨o, ho, e, hem, heb, rfl⟩ := hasEdge_iff.1 he
    have hl := hr o ho e hem heb
    by_cases hyz' : y = e.on
    · rw [hyz']; exact hl
    · exact ih e.on hzx hz (fun o' ho' => hc e.on o' ho' hl) y hy (by omega)

theorem wpAny_of_lex (hok : lexOk ops path = true) : ∀ (n : Nat) (rem : List Nat) (listed : Array Bool) (a : Act) (w : World), rem.length = n → rem.Pairwise (· < ·) → listed.size = ops.size →
    (∀ k, k ∈ rem ↔ k < ops.size ∧ listed.getD k true = false) → Closed ops listed → S w → Lex P ops S path Q rem a w → wpAny P .any ops Q n listed a w := by
  have hok' := hok
  simp only [lexOk, Bool.and_eq_true] at hok'
  obtain ⟨⟨hns, hall⟩, hpath⟩ := hok'
  have hsel := fun (j : Nat) (o : Oper) cs b => Region.noSelect_spec hns j o cs b
  intro n
  induction n with
  | zero =>
    intro rem listed a w hn _ _ hrem _ _ h
    obtain rfl := List.eq_nil_of_length_eq_zero hn
    refine ⟨?_, h⟩
    refine List.eq_nil_iff_forall_not_mem.2 fun i hi => ?_
    obtain ⟨h0, o, ho, _⟩ := mem_ready.1 hi
    have := (hrem i).2 ⟨(Array.getElem?_eq_some_iff.1 ho).1, h0⟩
    cases this
  | succ n ih =>
    intro rem listed a w hn hpw hsz hrem hcl hS h
    have hedge : ∀ j oj, ops[j]? = some oj → (∀ e ∈ oj.after, Region.binds .any e = true → e.on < j) ∧ ∀ i, i < j → hasEdge ops j i = true ∨ ∀ oi, ops[i]? = some oi → oi.apart ops oj = true := by
      intro j oj hj
      have h1 := List.all_eq_true.1 hall j (List.mem_range.2 (Array.getElem?_eq_some_iff.1 hj).1)
      simp only [hj, Bool.and_eq_true] at h1
      refine ⟨fun e he hb => ?_, fun i hij => ?_⟩
      · have := Array.all_eq_true_iff_forall_mem.1 h1.1 e he
        simpa [hb] using this
      · have := List.all_eq_true.1 h1.2 i (List.mem_range.2 hij)
        simp only [Bool.or_eq_true] at this
        refine this.imp id fun h2 oi hoi => ?_
        simpa [hoi] using h2
    refine ⟨fun hr0 => ?_, fun i hi => ?_⟩
    · -- the first that remains is ready
      exfalso
      match rem, hn, hpw, hrem with
      | m :: rest, _, hpw, hrem =>
        have hm := (hrem m).1 (by simp)
        obtain ⟨om, hom⟩ : ∃ o, ops[m]? = some o := ⟨_, Array.getElem?_eq_getElem hm.1⟩
        have : m ∈ Region.ready .any ops listed := mem_ready.2 ⟨hm.2, om, hom, fun e he hb => by
          have hlt := (hedge m om hom).1 e he hb
          have hno : e.on ∉ m :: rest := by
            intro hmem
            rcases List.mem_cons.1 hmem with h1 | h1
            · omega
            · have := (List.pairwise_cons.1 hpw).1 _ h1; omega
          have hlt2 : e.on < listed.size := by omega
          have hg : ¬ listed.getD e.on true = false := fun hf => hno ((hrem e.on).2 ⟨by omega, hf⟩)
          simp [hlt2] at hg ⊢
          exact hg⟩
        rw [hr0] at this
        cases this
    · obtain ⟨h0, oi, hoi, hall'⟩ := mem_ready.1 hi
      have hilt := (Array.getElem?_eq_some_iff.1 hoi).1
      have him := (hrem i).2 ⟨hilt, h0⟩
      obtain ⟨pre, post, rfl⟩ := List.append_of_mem him
      have hpre : ∀ p ∈ pre, p < i := fun p hp => (List.pairwise_append.1 hpw).2.2 p hp i (by simp)
      have hun : ∀ p ∈ pre, listed.getD p false = false := fun p hp => by
        have := (hrem p).1 (by simp [hp])
        have hlt2 : p < listed.size := by omega
        simpa [hlt2] using this.2
      have hap : ∀ p ∈ pre, ∀ o, ops[p]? = some o → o.apart ops oi = true := fun p hp o ho => by
        rcases (hedge i oi hoi).2 p (hpre p hp) with h1 | h1
        · obtain ⟨o', ho', e, he, hb, heq⟩ := hasEdge_iff.1 h1
          rw [hoi] at ho'
          obtain rfl := Option.some.inj ho'
          have := hall' e he hb
          rw [heq, hun p hp] at this
          cases this
        · exact h1 o ho
      have hne : ∀ k, k ∈ pre ++ post → k ≠ i := fun k hk hki => by
        subst hki
        rcases List.mem_append.1 hk with h1 | h1
        · exact Nat.lt_irrefl _ (hpre _ h1)
        · have := (List.pairwise_cons.1 (List.pairwise_append.1 hpw).2.1).1 _ h1; omega
      have next : ∀ a' w', S w' → Lex P ops S path Q (pre ++ post) a' w' → wpAny P .any ops Q n (listed.setIfInBounds i true) a' w' := fun a' w' hS' hl => by
        refine ih (pre ++ post) _ a' w' (by simp at hn ⊢; omega) ?_ (by simpa using hsz) (fun k => ?_) ?_ hS' hl
        · refine List.Pairwise.sublist ?_ hpw
          exact List.Sublist.append (List.Sublist.refl _) (List.sublist_cons_self _ _)
        · by_cases hk : k = i
          · subst hk
            constructor
            · intro hm; exact absurd rfl (hne _ hm)
            · intro hm
              have hlt2 : k < listed.size := by omega
              simp [hlt2] at hm
          · rw [getD_set_ne true (Ne.symm hk), ← hrem k]
            simp [hk]
        · intro j o ho hj e he hb
          refine getD_set_true ?_
          by_cases hji : i = j
          · subst hji
            rw [hoi] at ho
            obtain rfl := Option.some.inj ho
            exact hall' e he hb
          · rw [getD_set_ne false hji] at hj
            exact hcl j o ho hj e he hb
      have fin : ∀ v, Yl P ops S oi a v → Lex P ops S path Q (pre ++ post) (a.put oi.dst v) w → wpOp P ops Q i (wpAny P .any ops Q n (listed.setIfInBounds i true)) a w := fun v hv hl => by
        unfold wpOp
        simp only [hoi]
        rcases hv with ⟨hw, rfl⟩ | ⟨hw, hv⟩
        · simp only [hw, Bool.false_eq_true, if_false]
          exact next _ _ hS hl
        · simp only [hw, if_true]
          refine .inl ?_
          unfold Oper.wp
          rw [hv w hS]
          exact next _ _ hS hl
      by_cases hip : i ∈ path
      · have hnp : ∀ p ∈ pre, p ∉ path := fun p hp hpp => by
          have := path_listed hpath hcl i hip (fun o ho => by
            rw [hoi] at ho
            obtain rfl := Option.some.inj ho
            exact hall') p hpp (hpre p hp)
          rw [hun p hp] at this
          cases this
        rcases Lex.pullL hoi hsel pre a w hS hap hnp h with ⟨v, hv, hl⟩ | ⟨hw, hl⟩
        · exact fin v hv hl
        · unfold wpOp
          simp only [hoi, hw, if_true]
          exact .inl (hl.wp fun v w' ⟨hS', hl'⟩ => next _ _ hS' hl')
      · obtain ⟨v, hv, hl⟩ := Lex.pull hoi hip hsel pre a w hS hap h
        exact fin v hv hl

theorem wp_region_text {id : Nat} {a : Act} {w : World} (S : World → Prop) (path : List Nat) (rem : List Nat) (hm : P.follows .mixedOrders = true) (hok : lexOk ops path = true) (hr : List.range ops.size = rem) (hS : S w.drew)
    (h : Lex P ops S path Q rem a w.drew) : (Code.region id ops true).wp P Q a w := by
  refine wp_region_any hm ?_
  subst hr
  refine wpAny_of_lex (S := S) hok ops.size (List.range ops.size) _ a _ (by simp) List.pairwise_lt_range (by simp) (fun k => ?_) ?_ hS h
  · by_cases hk : k < ops.size <;> simp [hk]
  · intro j o _ hj
    by_cases hlt : j < ops.size <;> simp [hlt] at hj

/-- The same, over the operations themselves. -/
def LexL (P : Program) (ops : Array Oper) (S : World → Prop) (path : List Nat) (Q : Exit → Act → World → Prop) : Nat → List Oper → Act → World → Prop
  | _, [], a, w => Q .normal a w
  | i, o :: rest, a, w =>
      (∃ v, Yl P ops S o a v ∧ LexL P ops S path Q (i + 1) rest (a.put o.dst v) w) ∨
      (Region.wanted o (yielded ops a.tmps) = true ∧ i ∈ path ∧ Loud P o a w fun v w' => S w' ∧ LexL P ops S path Q (i + 1) rest (a.put o.dst v) w')
theorem Lex.of_list : ∀ (l : List Oper) (i : Nat) (a : Act) (w : World), (∀ k o, l[k]? = some o → ops[i + k]? = some o) → LexL P ops S path Q i l a w → Lex P ops S path Q (List.range' i l.length) a w
  | [], _, _, _, _, h => h
  | o :: l, i, a, w, hl, h => by
    have hl' : ∀ k o, l[k]? = some o → ops[i + 1 + k]? = some o := fun k o hk => by
      have := hl (k + 1) o hk
      rwa [show i + (k + 1) = i + 1 + k by omega] at this
    refine ⟨o, hl 0 o rfl, ?_⟩
    rcases h with ⟨v, hv, h⟩ | ⟨hw, hp, h⟩
    · exact .inl ⟨v, hv, Lex.of_list l (i + 1) _ _ hl' h⟩
    · exact .inr ⟨hw, hp, h.mono fun v w' ⟨h1, h2⟩ => ⟨h1, Lex.of_list l (i + 1) _ _ hl' h2⟩⟩
theorem wp_region_lex {l : List Oper} {id : Nat} {a : Act} {w : World} (S : World → Prop) (path : List Nat) (hm : P.follows .mixedOrders = true) (hok : lexOk l.toArray path = true) (hS : S w.drew)
    (h : LexL P l.toArray S path Q 0 l a w.drew) : (Code.region id l.toArray true).wp P Q a w := by
  refine wp_region_text S path _ hm hok rfl hS ?_
  have h1 := Lex.of_list (ops := l.toArray) l 0 a w.drew (fun k o hk => by simpa using hk) h
  simpa [List.range_eq_range'] using h1

variable {o : Oper} {i : Nat} {rest : List Oper} {a : Act} {w : World}
/-- One still operation, taken as the text has it. -/
theorem LexL.still {v : Value} (hw : Region.wanted o (yielded ops a.tmps) = true) (hv : ∀ w, S w → (execOp a.eval o).run P w = .ok (.value v) w)
    (h : LexL P ops S path Q (i + 1) rest (a.put o.dst v) w) : LexL P ops S path Q i (o :: rest) a w := .inl ⟨v, .inr ⟨hw, hv⟩, h⟩
theorem LexL.none (hw : Region.wanted o (yielded ops a.tmps) = false)
    (h : LexL P ops S path Q (i + 1) rest (a.put o.dst undef) w) : LexL P ops S path Q i (o :: rest) a w := .inl ⟨undef, .inl ⟨hw, rfl⟩, h⟩
/-- A loud one that makes a call. -/
theorem LexL.call {w1 : World} {f : FuncId} {args : Array Value} (hw : Region.wanted o (yielded ops a.tmps) = true) (hi : i ∈ path) (he : (execOp a.eval o).run P w = .ok (.enter f args) w1)
    (h : Calls P f args w1 fun e w' => ∃ v, e = .returned v ∧ S w' ∧ LexL P ops S path Q (i + 1) rest (a.put o.dst v) w') : LexL P ops S path Q i (o :: rest) a w :=
  .inr ⟨hw, hi, by unfold Loud; rw [he]; exact h⟩
/-- A loud one that yields a value. -/
theorem LexL.value {w1 : World} {v : Value} (hw : Region.wanted o (yielded ops a.tmps) = true) (hi : i ∈ path) (he : (execOp a.eval o).run P w = .ok (.value v) w1)
    (hS : S w1) (h : LexL P ops S path Q (i + 1) rest (a.put o.dst v) w1) : LexL P ops S path Q i (o :: rest) a w :=
  .inr ⟨hw, hi, by unfold Loud; rw [he]; exact ⟨hS, h⟩⟩
/-- A loud one that yields nothing. -/
theorem LexL.store {w1 : World} (hw : Region.wanted o (yielded ops a.tmps) = true) (hi : i ∈ path) (he : (execOp a.eval o).run P w = .ok .skip w1)
    (hS : S w1) (h : LexL P ops S path Q (i + 1) rest (a.put o.dst undef) w1) : LexL P ops S path Q i (o :: rest) a w :=
  .inr ⟨hw, hi, by unfold Loud; rw [he]; exact ⟨hS, h⟩⟩
theorem LexL.done (h : Q .normal a w) : LexL P ops S path Q i [] a w := h
end
end Go.Proofs.YtfihmpkkpgmdhaaGreatDoor

/-
  Contracts: the package jobs, walked.
-/
namespace Go.Proofs.YtfihmpkkpgmdhaaGreatDoor
open Go.RowKit

theorem in_any (n a b : Int) (w : World) :
    Calls Tryz.prog 75 #[.int .i64 n, .int .i64 a, .int .i64 b] w fun e w' => e = .returned (.bool (inB n a b)) ∧ w = w' := by
  by_cases h : a ≤ n
  · go_enter Tryz.func75, Tryz.ntmps75
    go_wp2
    go_ret
    exact ⟨by simp [inB]; omega, rfl⟩
  · go_enter Tryz.func75, Tryz.ntmps75
    go_wp2
    go_ret
    exact ⟨by simp [inB]; omega, rfl⟩

theorem own_any (b : Nat) (t : Tbl) (w : World) (h : TableAt w b t) :
    Calls Tryz.prog 135 #[.pointer (some ⟨b, 0, none⟩)] w fun e w' => ∃ b', e = .returned (.pointer (some ⟨b', 0, none⟩)) ∧ w.heap.size ≤ b' ∧ Below w.heap.size w w' ∧ TableAt w' b' t := by
  have hr := Lib.hid h; clear h
  go_enter Tryz.func135, Tryz.ntmps135
  go_wp2_with (first | (refine wpList_load_whole rfl 146 _ rfl b rfl (tcells t) hr.out Tryz.underlying146 rfl (by kernel_rfl) ?_) | (refine wpList_store_whole rfl 146 _ _ rfl w.heap.size (tcells t) rfl rfl (BlockAt.new w 146 (tcells Tbl.zero)) (by simp [tcells_len]) (by kernel_rfl) (tcells_ones t) ?_; intro w' h1 h2 h3))
  go_ret
  exact ⟨_, rfl, Nat.le_refl _, ((Below.refl _ _).alloc (Nat.le_refl _) _).grown h2 (by simp) (by rintro k ⟨⟩; exact Nat.le_refl _), h1⟩

theorem new_any (w : World) :
    Calls Tryz.prog 77 #[] w fun e w' => ∃ b, e = .returned (.pointer (some ⟨b, 0, none⟩)) ∧ w.heap.size ≤ b ∧ Below w.heap.size w w' ∧ TableAt w' b Tbl.zero := by
  go_enter Tryz.func77, Tryz.ntmps77
  go_wp2
  go_ret
  exact ⟨_, rfl, Nat.le_refl _, (Below.refl _ _).alloc (Nat.le_refl _) _, BlockAt.new w _ _⟩

set_option maxHeartbeats 1000000 in
theorem job_any (b : Nat) (t : Tbl) (n : Int) (w : World) (h : TableAt w b t) :
    Calls Tryz.prog 49 #[.pointer (some ⟨b, 0, none⟩), .int .i64 n] w fun e w' => e = .returned (t.job n).val ∧ Below w.heap.size w w' := by
  by_cases hn : 0 ≤ n ∧ n ≤ 5
  · obtain ⟨k, rfl⟩ := Int.eq_ofNat_of_zero_le hn.1
    obtain ⟨c0, c1, c2, c3⟩ := h.job (show k < 6 by omega)
    have hlt := h.lt
    have hb : inB k 0 5 = true := by simp [inB]; omega
    have HB := Lib.hid hb; clear hb
    have hn2 : (k : Int) ≤ 5 := hn.2
    have HJ : Hid (t.job k = t.jobs k) := by simp [Hid, Tbl.job, hn2]
    clear hn
    have H := Lib.hid h; clear h
    go_enter Tryz.func49, Tryz.ntmps49
    go_wp2_with (go_at_call 75; refine (in_any _ _ _ _).mono ?_; rw [HB.out]; rintro e w' ⟨rfl, rfl⟩)
    rw [HJ.out]
    refine bodyPost_ret (v := (t.jobs k).val) (by simp [results, Tryz.results49, go_sem, Job.val, jcells]) rfl ⟨rfl, ?_⟩
    repeat refine Below.setCell ?_ (Nat.le_refl _) _
    exact (Below.refl _ _).alloc (Nat.le_refl _) _
  · have hb : inB n 0 5 = false := by simp [inB]; omega
    have HB := Lib.hid hb; clear hb
    have HJ : Hid (t.job n = Job.zero) := by simp only [Hid, Tbl.job, if_neg hn]
    clear hn h
    go_enter Tryz.func49, Tryz.ntmps49
    go_wp2_with (go_at_call 75; refine (in_any _ _ _ _).mono ?_; rw [HB.out]; rintro e w' ⟨rfl, rfl⟩)
    rw [HJ.out]
    refine bodyPost_ret (v := Job.zero.val) (by simp [results, Tryz.results49, go_sem, Job.val, jcells, Job.zero]) rfl ⟨rfl, ?_⟩
    repeat refine Below.setCell ?_ (Nat.le_refl _) _
    exact (Below.refl _ _).alloc (Nat.le_refl _) _
set_option maxHeartbeats 2000000 in
theorem check_any (c n j t k m : Int) (w : World) :
    Calls Tryz.prog 107 #[.agg #[.int .i64 c, .int .i64 n, .int .i64 j, .int .i64 t, .int .i64 k, .int .i64 m]] w fun e w' =>
      e = .returned (.int .i64 (chk ⟨c, n, j, t, k, m⟩)) ∧ Below w.heap.size w w' := by
  by_cases hc : 1 ≤ c ∧ c ≤ 5
  · obtain rfl | rfl | rfl | rfl | rfl : c = 1 ∨ c = 2 ∨ c = 3 ∨ c = 4 ∨ c = 5 := by omega
    all_goals
      clear hc
      have g0 : inB 1 1 5 = true := rfl
      have g1 : inB 2 1 5 = true := rfl
      have g2 : inB 3 1 5 = true := rfl
      have g3 : inB 4 1 5 = true := rfl
      have g4 : inB 5 1 5 = true := rfl
      go_enter Tryz.func107, Tryz.ntmps107
      go_wp2_with (go_at_call 75; refine (in_any _ _ _ _).mono ?_; rintro e w' ⟨rfl, rfl⟩)
      go_quiet (fail)
      go_wp2_with (go_at_call 75; refine (in_any _ _ _ _).mono ?_; rintro e w' ⟨rfl, rfl⟩)
      all_goals clear g0 g1 g2 g3 g4
    all_goals
      go_ret
      refine ⟨ret_i64 ?_, below_drewN ((Below.refl _ _).alloc (Nat.le_refl _) _) _⟩
      try simp only [Bool.not_eq_eq_eq_not, Bool.not_true, Bool.not_false, inB_true, inB_false, bne_iff_ne, ne_eq, bne_eq_false_iff_eq] at *
      unfold chk
      dsimp only
      repeat' split
      all_goals omega
  · have hb : inB c 1 5 = false := inB_false.2 hc
    have HC := Lib.hid hc; clear hc
    go_enter Tryz.func107, Tryz.ntmps107
    go_wp2_with (go_at_call 75; refine (in_any _ _ _ _).mono ?_; rintro e w' ⟨rfl, rfl⟩)
    go_ret
    exact ⟨ret_i64 (by rw [chk, if_pos HC.out]), (Below.refl _ _).alloc (Nat.le_refl _) _⟩
set_option maxHeartbeats 2000000 in
theorem pass_any (b : Nat) (t : Tbl) (n : Int) (w : World) (h : TableAt w b t) :
    Calls Tryz.prog 108 #[.pointer (some ⟨b, 0, none⟩), .int .i64 n] w fun e w' => e = .returned (.tuple #[]) ∧ w.grownBy w' (some b) ∧ TableAt w' b (t.pass n) := by
  have hnow := h.cell 24 _ rfl
  have hf := h.free 24
  have H := Lib.hid h; clear h
  obtain ⟨m, hm, hcase⟩ : ∃ m, Hid (m = max t.now n) ∧ (t.now < n ∧ n = m ∨ n ≤ t.now ∧ t.now = m) := ⟨_, rfl, by omega⟩
  rcases hcase with ⟨hlt0, rfl⟩ | ⟨hlt0, rfl⟩
  all_goals
    go_enter Tryz.func108, Tryz.ntmps108
    go_wp2
    go_loopw [15, 4, 5] (fun i _ _ wr => ∃ (k : Nat) (m : Int), k ≤ 6 ∧ i = .int .i64 k ∧ w.grownBy wr (some b) ∧ Hid (m = max t.now n) ∧ TableAt wr b (passTo t m k)) (fun i _ _ _ => 6 - (intOf i).toNat)
    case atStart => exact ⟨0, _, by omega, rfl, grown_setCell (grown_refl w _) _ _, hm, passTo_start t _ H.out⟩
    case round =>
      obtain ⟨k, m, hk, rfl, hg, hm', ht⟩ := hrel
      by_cases hlt : k < 6
      · obtain ⟨c0, c1, c2, c3⟩ := ht.job hlt
        have c24 := ht.cell 24 _ rfl
        simp only [passTo] at c0 c1 c2 c3 c24
        have f0 := ht.free (k * 4)
        have f1 := ht.free (k * 4 + 1)
        have f2 := ht.free (k * 4 + 2)
        have f3 := ht.free (k * 4 + 3)
        have HT := Lib.hid ht; clear ht
        by_cases hs : (t.jobs k).st = 2
        · have hs1 : ((t.jobs k).st != 2) = false := by simpa using hs
          have HS := Lib.hid hs; clear hs
          by_cases hu : (t.jobs k).un ≤ m
          · by_cases h3 : 3 ≤ (t.jobs k).tr
            · go_wp2
              go_quiet (fail)
              go_wp2
              go_roundw
              case rel => exact ⟨k + 1, m, by omega, by go_num, grown_setCell (grown_setCell (grown_setCell (grown_setCell (grown_drewN hg _) _ _) _ _) _ _) _ _, hm', passTo_set _ _ _ (by rw [expire, if_pos ⟨HS.out, hu⟩, if_pos h3]; exact TableAt.setJob HT.out hlt ⟨4, 0, (t.jobs k).tr, 0⟩)⟩
              case measure => simp [intOf]; omega
            · go_wp2
              go_quiet (fail)
              go_wp2
              go_roundw
              case rel => exact ⟨k + 1, m, by omega, by go_num, grown_setCell (grown_setCell (grown_setCell (grown_setCell (grown_drewN hg _) _ _) _ _) _ _) _ _, hm', passTo_set _ _ _ (by rw [expire, if_pos ⟨HS.out, hu⟩, if_neg (by omega)]; exact TableAt.setJob HT.out hlt ⟨1, 0, (t.jobs k).tr, 0⟩)⟩
              case measure => simp [intOf]; omega
          · go_wp2
            go_quiet (fail)
            go_wp2
            go_roundw
            case rel => exact ⟨k + 1, m, by omega, by go_num, grown_drewN hg _, hm', passTo_keep _ _ _ HT.out (by rw [expire, if_neg (fun h => absurd h.2 (by omega))])⟩
            case measure => simp [intOf]; omega
        · have hs1 : ((t.jobs k).st != 2) = true := by simpa using hs
          have HS := Lib.hid hs; clear hs
          go_wp2
          go_quiet (fail)
          go_wp2
          go_roundw
          case rel => exact ⟨k + 1, m, by omega, by go_num, grown_drewN hg _, hm', passTo_keep _ _ _ HT.out (by rw [expire, if_neg (fun h => HS.out h.1)])⟩
          case measure => simp [intOf]; omega
      · obtain rfl : k = 6 := by omega
        go_wp2
        go_end0
        exact ⟨rfl, hg, passTo_end _ _ (by rw [← hm'.out]; exact ht)⟩
end Go.Proofs.YtfihmpkkpgmdhaaGreatDoor

/-
  Records as bytes: the walks of the codec's small functions, of Encode and of Decode.
-/
namespace Go.Proofs.YtfihmpkkpgmdhaaGreatDoor
set_option maxRecDepth 100000
set_option linter.unusedSimpArgs false
set_option linter.unusedVariables false
open Go.RowKit

/-- What a read of a slice of bytes wants. -/
theorem BytesAt.get {w : World} {v : Value} {l : List UInt8} (h : BytesAt w v l) : ∃ a c, v = .slice a l.length c ∧ l.length ≤ c ∧ c ≤ 9223372036854775807 ∧
    (l ≠ [] → ∃ g off, a = some ⟨g, off, none⟩ ∧ ∀ i, i < l.length → w.cell? ⟨g, off + i, none⟩ = some (.int .u8 ((l.getD i 0).toNat : Int))) := by
  obtain ⟨a, c, rfl, h1, h2, h3, h4⟩ := h
  refine ⟨a, c, rfl, h1, by unfold maxLen at h2; omega, fun hl => ?_⟩
  obtain ⟨g, off, rfl, h5⟩ := h4 hl
  refine ⟨g, off, rfl, fun i hi => h5 i _ ?_⟩
  simp [bvs, bv, hi]

set_option maxRecDepth 100000 in
set_option maxHeartbeats 1000000 in
theorem csum_any (v : Value) (l : List UInt8) (w : World) (h : BytesAt w v l) (hl : l.length ≤ 1000) :
    Calls Tryz.prog 124 #[v] w fun e w' => e = .returned (.int .u8 ((csum l).toNat : Int)) ∧ w = w' := by
  obtain ⟨a, c, rfl, h1, h2, h3⟩ := h.get
  have H3 := Lib.hid h3; clear h3 h
  go_enter Tryz.func124, Tryz.ntmps124
  go_wp2
  go_loop [8, 3, 4, 5] (fun i n _ _ => ∃ k : Nat, k ≤ l.length ∧ i = .int .i64 k ∧ n = .int .i64 (sumB (l.take k) : Int)) (fun i _ _ _ => l.length - (intOf i).toNat)
  case atStart => exact ⟨0, by omega, rfl, rfl⟩
  case round =>
    obtain ⟨k, hk, rfl, rfl⟩ := hrel
    have hb := sumB_le (l.take k) (by simp; omega)
    by_cases hlt : k < l.length
    · obtain ⟨g, off, rfl, hc⟩ := H3.out (by intro e; rw [e] at hlt; simp at hlt)
      have hck := hc k hlt
      have hs := sumB_take l k hlt
      have hx : (l.getD k 0).toNat ≤ 255 := by have := (l.getD k 0).toNat_lt; omega
      have hm : (k + 1) * (l.getD k 0).toNat ≤ 1001 * 255 := Nat.mul_le_mul (by omega) hx
      have HS := Lib.hid hs
      clear hs hc
      generalize (l.getD k 0).toNat = y at *
      obtain ⟨p, hp⟩ : ∃ p : Nat, (k + 1) * y = p := ⟨_, rfl⟩
      have hp2 : ((k : Int) + 1) * (y : Int) = (p : Int) := by rw [← hp]; simp
      have hp3 : p ≤ 255255 := by omega
      have HP := Lib.hid hp
      clear hp hm
      go_wp2
      go_round
      case rel => exact ⟨k + 1, by omega, by go_num, by rw [HS.out, HP.out]; go_num⟩
      case measure => simp [intOf]; omega
    · obtain rfl : k = l.length := by omega
      go_wp2
      go_ret
      refine ⟨?_, rfl⟩
      simp [bv, csum_toNat]
set_option maxRecDepth 100000 in
set_option maxHeartbeats 1000000 in
theorem rsum_any (v : Value) (l : List UInt8) (w : World) (h : BytesAt w v l) (hl : l.length ≤ 1000) :
    Calls Tryz.prog 118 #[v] w fun e w' => e = .returned (.int .u8 ((csum l).toNat : Int)) ∧ w = w' := by
  obtain ⟨a, c, rfl, h1, h2, h3⟩ := h.get
  have H3 := Lib.hid h3; clear h3 h
  go_enter Tryz.func118, Tryz.ntmps118
  go_wp2
  go_loop [4, 3] (fun i n => ∃ k : Nat, k ≤ l.length ∧ i = .int .i64 k ∧ n = .int .i64 (sumB (l.take k) : Int)) (fun i _ => l.length - (intOf i).toNat)
  case atStart => exact ⟨0, by omega, rfl, rfl⟩
  case round =>
    obtain ⟨k, hk, rfl, rfl⟩ := hrel
    have hb := sumB_le (l.take k) (by simp; omega)
    by_cases hlt : k < l.length
    · obtain ⟨g, off, rfl, hc⟩ := H3.out (by intro e; rw [e] at hlt; simp at hlt)
      have hck := hc k hlt
      have hs := sumB_take l k hlt
      have hx : (l.getD k 0).toNat ≤ 255 := by have := (l.getD k 0).toNat_lt; omega
      have hm : (k + 1) * (l.getD k 0).toNat ≤ 1001 * 255 := Nat.mul_le_mul (by omega) hx
      have HS := Lib.hid hs
      clear hs hc
      generalize (l.getD k 0).toNat = y at *
      obtain ⟨p, hp⟩ : ∃ p : Nat, (k + 1) * y = p := ⟨_, rfl⟩
      have hp2 : ((k : Int) + 1) * (y : Int) = (p : Int) := by rw [← hp]; simp
      have hp3 : p ≤ 255255 := by omega
      have HP := Lib.hid hp
      clear hp hm
      go_wp2
      go_round
      case rel => exact ⟨k + 1, by omega, by go_num, by rw [HS.out, HP.out]; go_num⟩
      case measure => simp [intOf]; omega
    · obtain rfl : k = l.length := by omega
      go_wp2
      go_ret
      refine ⟨?_, rfl⟩
      simp [bv, csum_toNat]

theorem ccheck_any (p c n j t k m : Int) (w : World) :
    Calls Tryz.prog 125 #[.agg #[.int .i64 p, .int .i64 c, .int .i64 n, .int .i64 j, .int .i64 t, .int .i64 k, .int .i64 m]] w fun e w' => e = .returned (.int .i64 (chkR ⟨p, ⟨c, n, j, t, k, m⟩⟩)) ∧ Below w.heap.size w w' := by
  by_cases h1 : p < 1
  · rw [show chkR ⟨p, ⟨c, n, j, t, k, m⟩⟩ = 3 by simp [chkR, h1]]
    go_enter Tryz.func125, Tryz.ntmps125
    go_wp2_with fail
    go_ret
    exact ⟨rfl, (Below.refl _ _).alloc (Nat.le_refl _) _⟩
  · by_cases h2 : 100 < p
    · rw [show chkR ⟨p, ⟨c, n, j, t, k, m⟩⟩ = 3 by simp [chkR, h2]]
      go_enter Tryz.func125, Tryz.ntmps125
      go_wp2_with fail
      go_ret
      exact ⟨rfl, (Below.refl _ _).alloc (Nat.le_refl _) _⟩
    · rw [show chkR ⟨p, ⟨c, n, j, t, k, m⟩⟩ = chk ⟨c, n, j, t, k, m⟩ by simp [chkR]; omega]
      go_enter Tryz.func125, Tryz.ntmps125
      go_wp2_with fail
      refine (check_any c n j t k m _).mono ?_
      rintro e w1 ⟨rfl, hb⟩
      go_wp2
      go_ret
      exact ⟨rfl, ((Below.refl w.heap.size w).alloc (Nat.le_refl _) _).trans (hb.mono (by simp))⟩
theorem chkR_zero {r : Rec} (h : chkR r = 0) : 1 ≤ r.ep ∧ r.ep ≤ 100 ∧ chk r.o = 0 := by
  unfold chkR at h
  split at h
  · simp at h
  · exact ⟨by omega, by omega, h⟩
theorem chk_bounds {o : Ord} (h : chk o = 0) : 1 ≤ o.kind ∧ o.kind ≤ 5 ∧ 0 ≤ o.now ∧ o.now ≤ 60000 ∧ 0 ≤ o.job ∧ o.job ≤ 5 ∧ 0 ≤ o.tr ∧ o.tr ≤ 3 ∧ 0 ≤ o.wk ∧ o.wk ≤ 3 ∧ 0 ≤ o.tm ∧ o.tm ≤ 20 := by
  unfold chk at h
  split at h <;> omega

theorem bv_u8 {n : Int} (h0 : 0 ≤ n) (h1 : n ≤ 255) : bv (u8 n) = .int .u8 n := by
  unfold bv u8
  rw [UInt8.toNat_ofNat']
  congr 1
  omega
/-- A block of bytes that was just laid. -/
theorem own_new (w : World) (cs : List Value) (l : List UInt8) (h : cs = bvs l) (hl : l.length ≤ 100000) : OwnB (w.alloc (.cells cs.toArray 5)) (.slice (some ⟨w.heap.size, 0, none⟩) l.length l.length) l := by
  subst h
  exact .inr ⟨_, l.length, bvs l, rfl, BlockAt.new w 5 _, Nat.le_refl _, by simp, by unfold maxLen; omega, List.take_of_length_le (by simp)⟩
theorem encH_cells {r : Rec} (h : chkR r = 0) : bvs (encH r) = [.int .u8 r.ep, .int .u8 r.o.kind, .int .u8 (r.o.now / 256), .int .u8 (r.o.now % 256), .int .u8 r.o.job, .int .u8 r.o.tr, .int .u8 r.o.wk, .int .u8 r.o.tm] := by
  obtain ⟨p0, p1, hc⟩ := chkR_zero h
  obtain ⟨b0, b1, b2, b3, b4, b5, b6, b7, b8, b9, b10, b11⟩ := chk_bounds hc
  simp only [bvs, encH, List.map_cons, List.map_nil]
  rw [bv_u8 (by omega) (by omega), bv_u8 (by omega) (by omega), bv_u8 (by omega) (by omega), bv_u8 (by omega) (by omega), bv_u8 (by omega) (by omega), bv_u8 (by omega) (by omega), bv_u8 (by omega) (by omega), bv_u8 (by omega) (by omega)]

/-- What Encode leaves. -/
def EncPost (w : World) (r : Rec) (e : Ending) (w' : World) : Prop :=
  ∃ v, e = .returned (.tuple #[v, .int .i64 (chkR r)]) ∧ OwnB w' v (if chkR r = 0 then encB r else []) ∧ Below w.heap.size w w' ∧ ∀ k, v.ownBlock = some k → w.heap.size ≤ k

set_option maxRecDepth 100000 in
set_option maxHeartbeats 2000000 in
theorem encode_any (p c n j t k m : Int) (w : World) :
    Calls Tryz.prog 136 #[.agg #[.int .i64 p, .int .i64 c, .int .i64 n, .int .i64 j, .int .i64 t, .int .i64 k, .int .i64 m]] w (EncPost w ⟨p, ⟨c, n, j, t, k, m⟩⟩) := by
  by_cases h0 : chkR ⟨p, ⟨c, n, j, t, k, m⟩⟩ = 0
  · obtain ⟨p0, p1, hc⟩ := chkR_zero h0
    obtain ⟨b0, b1, b2, b3, b4, b5, b6, b7, b8, b9, b10, b11⟩ := chk_bounds hc
    dsimp only at *
    have H0 := Lib.hid h0
    clear h0 hc
    obtain ⟨i0, hi, hz0, hz1, hz2⟩ := info_parts Tryz.infoU8
    go_enter Tryz.func136, Tryz.ntmps136
    go_wp2_with fail
    refine (ccheck_any _ _ _ _ _ _ _ _).mono ?_
    rw [H0.out]
    rintro e w1 ⟨rfl, hb1⟩
    have hx := (BlockAt.new w 103 [.int .i64 p, .int .i64 c, .int .i64 n, .int .i64 j, .int .i64 t, .int .i64 k, .int .i64 m]).below hb1 (by simp)
    have k1 := hx.cells
    have l1 := hx.lt
    have HX := Lib.hid hx
    have HB1 := Lib.hid hb1
    clear hx hb1
    go_wp2_with fail
    have ho := own_new (w1.alloc (.cells #[.int .i64 c, .int .i64 n, .int .i64 j, .int .i64 t, .int .i64 k, .int .i64 m] 84)) _ (encH ⟨p, ⟨c, n, j, t, k, m⟩⟩) (encH_cells H0.out).symm (by simp [encH])
    simp only [World.size_alloc] at ho
    have HO := Lib.hid ho; clear ho
    refine (csum_any _ _ _ HO.out.bytes (by simp [encH])).mono ?_
    rintro e w2 ⟨rfl, rfl⟩
    generalize hs : csum (encH ⟨p, ⟨c, n, j, t, k, m⟩⟩) = s
    have HS := Lib.hid hs; clear hs
    have ho2 := HO.out.upd (Upd.alloc (F := fun _ => False) (Upd.refl _ _) (.cells #[.int .u8 (s.toNat : Int)] 5)) (fun _ _ h => h)
    have hn2 := (own_new ((w1.alloc (.cells #[.int .i64 c, .int .i64 n, .int .i64 j, .int .i64 t, .int .i64 k, .int .i64 m] 84)).alloc (.cells #[.int .u8 p, .int .u8 c, .int .u8 (n / 256), .int .u8 (n % 256), .int .u8 j, .int .u8 t, .int .u8 k, .int .u8 m] 5)) [.int .u8 (s.toNat : Int)] [s] rfl (by simp)).bytes
    simp only [World.size_alloc] at hn2
    have HO2 := Lib.hid ho2; have HN2 := Lib.hid hn2; clear ho2 hn2
    go_wp2_with (at_builtin; refine wpList_append_bytes (v := .slice (some ⟨w1.heap.size + 1, 0, none⟩) 8 8) (l := encH ⟨p, ⟨c, n, j, t, k, m⟩⟩) (m := [s]) rfl _ _ 42 rfl 5 i0 Tryz.underlying42 hi hz0 hz1 hz2 rfl rfl rfl HO2.out HN2.out (by simp [encH]) ?_; intro v' w' hv' hu hfr)
    go_ret2
    have hu2 : Upd (fun k => (Value.slice (some ⟨w1.heap.size + 1, 0, none⟩) 8 8).ownBlock = some k) w1 w' := by
      refine Upd.trans (F := fun k => (Value.slice (some ⟨w1.heap.size + 1, 0, none⟩) 8 8).ownBlock = some k) ?_ hu (fun k hk => .inl hk)
      exact ((Upd.alloc (Upd.refl _ _) _).alloc _).alloc _
    have hu3 := ((Below.refl w.heap.size w).alloc (Nat.le_refl _) _).trans (HB1.out.mono (by simp))
    have hs3 := hu3.size
    refine ⟨v', by rw [H0.out]; rfl, ?_, hu3.trans (hu2.below hs3 fun k hk => by simp [Value.ownBlock] at hk; omega), fun k hk => ?_⟩
    · rw [if_pos H0.out, encB, HS.out]
      exact hv'
    · rcases hfr k hk with h | h
      · simp [Value.ownBlock] at h; omega
      · simp at h; omega
  · obtain ⟨C, hC⟩ : ∃ C, chkR ⟨p, ⟨c, n, j, t, k, m⟩⟩ = C := ⟨_, rfl⟩
    have hc1 : (C != 0) = true := by rw [hC] at h0; simpa using h0
    have HC := Lib.hid hC
    have H0 := Lib.hid h0
    clear hC h0
    go_enter Tryz.func136, Tryz.ntmps136
    go_wp2_with fail
    refine (ccheck_any _ _ _ _ _ _ _ _).mono ?_
    rw [HC.out]
    rintro e w1 ⟨rfl, hb1⟩
    have HB1 := Lib.hid hb1; clear hb1
    go_wp2
    go_ret2
    exact ⟨_, by rw [HC.out]; rfl, by rw [if_neg H0.out]; exact OwnB.nil _, ((Below.refl w.heap.size w).alloc (Nat.le_refl _) _).trans (HB1.out.mono (by simp)), by simp [Value.ownBlock]⟩
theorem BytesAt.take {w : World} {a : Option Addr} {n c : Nat} {l : List UInt8} (h : BytesAt w (.slice a n c) l) {q : Nat} (hq : q ≤ l.length) : BytesAt w (.slice a q c) (l.take q) := by
  obtain ⟨a', c', e, h1, h2, h3, h4⟩ := h
  simp only [Value.slice.injEq] at e
  obtain ⟨rfl, _, rfl⟩ := e
  have hl : (l.take q).length = q := by simp; omega
  refine ⟨a, c, by rw [hl], by omega, h2, h3, fun hne => ?_⟩
  obtain ⟨g, off, rfl, h5⟩ := h4 (by intro e; subst e; simp at hne)
  refine ⟨g, off, rfl, fun j u hu => h5 j u ?_⟩
  simp only [bvs, List.map_take, List.getElem?_take] at hu
  split at hu
  · exact hu
  · cases hu

/-- A record and a code. -/
def rcells (r : Rec) : List Value := [.int .i64 r.ep, .int .i64 r.o.kind, .int .i64 r.o.now, .int .i64 r.o.job, .int .i64 r.o.tr, .int .i64 r.o.wk, .int .i64 r.o.tm]
def DecPost (w : World) (x : Rec × Int) (e : Ending) (w' : World) : Prop :=
  e = .returned (.tuple #[.agg #[.int .i64 x.1.ep, .int .i64 x.1.o.kind, .int .i64 x.1.o.now, .int .i64 x.1.o.job, .int .i64 x.1.o.tr, .int .i64 x.1.o.wk, .int .i64 x.1.o.tm], .int .i64 x.2]) ∧ Below w.heap.size w w'
theorem w8 (y : Nat) (h : y < 256) : IntKind.i64.wrap (y : Int) = y := by
  rw [IntKind.wrap_i64]; omega
theorem w16 (y : Nat) (h : y < 256) : IntKind.i64.wrap (IntKind.i64.wrap (y : Int) * 256) = ((256 * y : Nat) : Int) := by
  rw [w8 y h, IntKind.wrap_i64]; omega
theorem ofInt_i64 (a : Nat) (ha : a < 9223372036854775808) : (BitVec.ofInt 64 (a : Int)).toNat = a := by
  rw [BitVec.toNat_ofInt]; omega
theorem i64_or_nat (a b : Nat) (ha : a < 9223372036854775808) (hb : b < 9223372036854775808) : bits .or .i64 (a : Int) (b : Int) = ((a ||| b : Nat) : Int) := by
  have hx : a ||| b < 2 ^ 63 := Nat.or_lt_two_pow (by omega) (by omega)
  show IntKind.i64.wrap ((BitVec.ofInt 64 (a : Int) ||| BitVec.ofInt 64 (b : Int)).toNat : Int) = _
  rw [BitVec.toNat_or, ofInt_i64 a ha, ofInt_i64 b hb, IntKind.wrap_i64]
  omega
theorem or8 (y z : Nat) (h : y < 256) (hz : z < 256) : bits .or .i64 (IntKind.i64.wrap (IntKind.i64.wrap (y : Int) * 256)) (IntKind.i64.wrap (z : Int)) = 256 * (y : Int) + (z : Int) := by
  rw [w16 y h, w8 z hz, i64_or_nat _ _ (by omega) (by omega)]
  have := Nat.two_pow_add_eq_or_of_lt (i := 8) (b := z) (by omega) y
  simp only [show (2 : Nat) ^ 8 = 256 from rfl] at this
  omega
theorem u8_ne (a b : UInt8) (h : a ≠ b) : (((a.toNat : Int)) != (b.toNat : Int)) = true := by
  simp only [bne_iff_ne, ne_eq]
  intro e
  exact h (UInt8.toNat_inj.1 (by omega))

set_option maxRecDepth 100000 in
set_option maxHeartbeats 4000000 in
theorem decode_any (v : Value) (l : List UInt8) (w : World) (h : BytesAt w v l) : Calls Tryz.prog 106 #[v] w (DecPost w (decB l)) := by
  have HB := Lib.hid h
  obtain ⟨a, c, rfl, h1, h2, h3⟩ := h.get
  have H3 := Lib.hid h3; clear h3 h
  by_cases h9 : l.length < 9
  · rw [show decB l = (Rec.zero, 7) by simp [decB, h9]]
    go_enter Tryz.func106, Tryz.ntmps106
    go_wp2
    refine bodyPost_ret (v := .tuple #[.agg #[.int .i64 0, .int .i64 0, .int .i64 0, .int .i64 0, .int .i64 0, .int .i64 0, .int .i64 0], .int .i64 7]) (by simp [results, Tryz.results106, go_sem]) rfl ⟨rfl, ?_⟩
    repeat refine Below.setCell ?_ (Nat.le_refl _) _
    exact (Below.refl _ _).alloc (Nat.le_refl _) _
  · obtain ⟨g, off, rfl, hc⟩ := H3.out (by intro e; subst e; simp at h9)
    have c8 := hc 8 (by omega)
    have h10 : 9 ≤ l.length := by omega
    have h11 : 8 ≤ c := by omega
    have h12 : (8 : Int) ≤ (c : Int) := by omega
    have h20 : 0 < l.length := by omega
    have h21 : (1 : Int) < (l.length : Int) := by omega
    have h22 : (2 : Int) < (l.length : Int) := by omega
    have h23 : (3 : Int) < (l.length : Int) := by omega
    have h24 : (4 : Int) < (l.length : Int) := by omega
    have h25 : (5 : Int) < (l.length : Int) := by omega
    have h26 : (6 : Int) < (l.length : Int) := by omega
    have h27 : (7 : Int) < (l.length : Int) := by omega
    have h28 : (8 : Int) < (l.length : Int) := by omega
    have HT := Lib.hid (HB.out.take (q := 8) (by omega))
    have hg := block_lt_of_cell c8
    by_cases hs : csum (l.take 8) = l.getD 8 0
    · have hs1 : (((csum (l.take 8)).toNat : Int) != ((l.getD 8 0).toNat : Int)) = false := by rw [hs]; simp
      have d0 := hc 0 (by omega)
      have d1 := hc 1 (by omega)
      have d2 := hc 2 (by omega)
      have d3 := hc 3 (by omega)
      have d4 := hc 4 (by omega)
      have d5 := hc 5 (by omega)
      have d6 := hc 6 (by omega)
      have d7 := hc 7 (by omega)
      rw [Nat.add_zero] at d0
      clear hc
      have dx : decB l = (if chkR ⟨((l.getD 0 0).toNat : Int), ⟨((l.getD 1 0).toNat : Int), 256 * ((l.getD 2 0).toNat : Int) + ((l.getD 3 0).toNat : Int), ((l.getD 4 0).toNat : Int), ((l.getD 5 0).toNat : Int), ((l.getD 6 0).toNat : Int), ((l.getD 7 0).toNat : Int)⟩⟩ ≠ 0 then (Rec.zero, chkR ⟨((l.getD 0 0).toNat : Int), ⟨((l.getD 1 0).toNat : Int), 256 * ((l.getD 2 0).toNat : Int) + ((l.getD 3 0).toNat : Int), ((l.getD 4 0).toNat : Int), ((l.getD 5 0).toNat : Int), ((l.getD 6 0).toNat : Int), ((l.getD 7 0).toNat : Int)⟩⟩) else (⟨((l.getD 0 0).toNat : Int), ⟨((l.getD 1 0).toNat : Int), 256 * ((l.getD 2 0).toNat : Int) + ((l.getD 3 0).toNat : Int), ((l.getD 4 0).toNat : Int), ((l.getD 5 0).toNat : Int), ((l.getD 6 0).toNat : Int), ((l.getD 7 0).toNat : Int)⟩⟩, 0)) := by
        rw [decB, if_neg h9, if_neg (by rw [hs]; simp)]
        rfl
      rw [dx]; clear dx hs
      have e0 := w8 _ (l.getD 0 0).toNat_lt
      have e1 := w8 _ (l.getD 1 0).toNat_lt
      have e23 := or8 _ _ (l.getD 2 0).toNat_lt (l.getD 3 0).toNat_lt
      have e4 := w8 _ (l.getD 4 0).toNat_lt
      have e5 := w8 _ (l.getD 5 0).toNat_lt
      have e6 := w8 _ (l.getD 6 0).toNat_lt
      have e7 := w8 _ (l.getD 7 0).toNat_lt
      generalize (l.getD 0 0).toNat = y0 at *
      generalize (l.getD 1 0).toNat = y1 at *
      generalize (l.getD 2 0).toNat = y2 at *
      generalize (l.getD 3 0).toNat = y3 at *
      generalize (l.getD 4 0).toNat = y4 at *
      generalize (l.getD 5 0).toNat = y5 at *
      generalize (l.getD 6 0).toNat = y6 at *
      generalize (l.getD 7 0).toNat = y7 at *
      generalize (l.getD 8 0).toNat = y8 at *
      generalize hcs : (csum (l.take 8)).toNat = cs at *
      have HCS := Lib.hid hcs; clear hcs
      by_cases hk : chkR ⟨(y0 : Int), ⟨(y1 : Int), 256 * (y2 : Int) + (y3 : Int), (y4 : Int), (y5 : Int), (y6 : Int), (y7 : Int)⟩⟩ = 0
      · rw [if_neg (by rw [hk]; simp)]
        have HK := Lib.hid hk; clear hk
        go_enter Tryz.func106, Tryz.ntmps106
        go_wp2
        refine wp_region_lex (fun W => W.cell? ⟨g, off + 8, none⟩ = some (.int .u8 (y8 : Int))) [2] (by kernel_rfl) (by kernel_rfl) (by go_simp) ?_
        repeat (first | (refine LexL.none (by rfl) ?_; (try simp only [Act.put, List.setIfInBounds_toArray, List.set_cons_zero, List.set_cons_succ])) | (refine LexL.still (v := ?_) (by rfl) ?_ ?_; rotate_left; (focus (intro W hW; (try dsimp only at hW); go_simp; (try (with_reducible rfl)); done)); (try simp only [Act.put, List.setIfInBounds_toArray, List.set_cons_zero, List.set_cons_succ])))
        refine LexL.call (f := 124) (args := #[.slice (some ⟨g, off, none⟩) 8 c]) (w1 := (w.alloc (.cells #[.int .i64 0, .int .i64 0, .int .i64 0, .int .i64 0, .int .i64 0, .int .i64 0, .int .i64 0] 103)).drew) (by rfl) (by decide) (by go_simp) ?_
        refine (csum_any _ (l.take 8) _ (HT.out.upd (Upd.drew (Upd.alloc (F := fun _ => False) (Upd.refl _ _) _)) (fun _ _ h => h)) (by simp; omega)).mono ?_
        rw [HCS.out]
        rintro e w1 ⟨rfl, rfl⟩
        refine ⟨_, rfl, by go_simp, ?_⟩
        try simp only [Act.put, List.setIfInBounds_toArray, List.set_cons_zero, List.set_cons_succ]
        repeat (first | (refine LexL.none (by rfl) ?_; (try simp only [Act.put, List.setIfInBounds_toArray, List.set_cons_zero, List.set_cons_succ])) | (refine LexL.still (v := ?_) (by rfl) ?_ ?_; rotate_left; (focus (intro W hW; (try dsimp only at hW); go_simp; (try (with_reducible rfl)); done)); (try simp only [Act.put, List.setIfInBounds_toArray, List.set_cons_zero, List.set_cons_succ])))
        refine LexL.done ?_
        go_wp2
        refine wp_region_lex (fun W => W.cell? ⟨g, off, none⟩ = some (.int .u8 (y0 : Int)) ∧ W.cell? ⟨g, off + 1, none⟩ = some (.int .u8 (y1 : Int)) ∧ W.cell? ⟨g, off + 2, none⟩ = some (.int .u8 (y2 : Int)) ∧ W.cell? ⟨g, off + 3, none⟩ = some (.int .u8 (y3 : Int)) ∧ W.cell? ⟨g, off + 4, none⟩ = some (.int .u8 (y4 : Int)) ∧ W.cell? ⟨g, off + 5, none⟩ = some (.int .u8 (y5 : Int)) ∧ W.cell? ⟨g, off + 6, none⟩ = some (.int .u8 (y6 : Int)) ∧ W.cell? ⟨g, off + 7, none⟩ = some (.int .u8 (y7 : Int))) [36, 37] (by kernel_rfl) (by kernel_rfl) (by refine ⟨?_, ?_, ?_, ?_, ?_, ?_, ?_, ?_⟩ <;> go_simp) ?_
        repeat (first | (refine LexL.none (by rfl) ?_; (try simp only [Act.put, List.setIfInBounds_toArray, List.set_cons_zero, List.set_cons_succ])) | (refine LexL.still (v := ?_) (by rfl) ?_ ?_; rotate_left; (focus (intro W hW; (try dsimp only at hW); go_simp; (try (with_reducible rfl)); done)); (try simp only [Act.put, List.setIfInBounds_toArray, List.set_cons_zero, List.set_cons_succ])))
        refine LexL.value (v := .pointer (some ⟨w.heap.size + 1, 0, none⟩)) (w1 := (w.alloc (.cells #[.int .i64 0, .int .i64 0, .int .i64 0, .int .i64 0, .int .i64 0, .int .i64 0, .int .i64 0] 103)).drew.drew.alloc (.cells #[.int .i64 0, .int .i64 0, .int .i64 0, .int .i64 0, .int .i64 0, .int .i64 0, .int .i64 0] 103)) (by rfl) (by decide) (by go_simp) (by refine ⟨?_, ?_, ?_, ?_, ?_, ?_, ?_, ?_⟩ <;> go_simp) ?_
        try simp only [Act.put, List.setIfInBounds_toArray, List.set_cons_zero, List.set_cons_succ]
        refine LexL.store (by rfl) (by decide) (by go_simp; rfl) (by refine ⟨?_, ?_, ?_, ?_, ?_, ?_, ?_, ?_⟩ <;> go_simp) ?_
        try simp only [Act.put, List.setIfInBounds_toArray, List.set_cons_zero, List.set_cons_succ]
        refine LexL.done ?_
        go_wp2_with fail
        refine (ccheck_any _ _ _ _ _ _ _ _).mono ?_
        rw [HK.out]
        rintro e w2 ⟨rfl, hb⟩
        have hb0 := (((Below.refl w.heap.size w).alloc (Nat.le_refl _) (.cells #[.int .i64 0, .int .i64 0, .int .i64 0, .int .i64 0, .int .i64 0, .int .i64 0, .int .i64 0] 103)).alloc (by simp) (.cells #[.int .i64 y0, .int .i64 y1, .int .i64 (256 * y2 + y3), .int .i64 y4, .int .i64 y5, .int .i64 y6, .int .i64 y7] 103)).drew.drew
        have hx := ((BlockAt.new w 103 [.int .i64 0, .int .i64 0, .int .i64 0, .int .i64 0, .int .i64 0, .int .i64 0, .int .i64 0]).alloc (.cells #[.int .i64 y0, .int .i64 y1, .int .i64 (256 * y2 + y3), .int .i64 y4, .int .i64 y5, .int .i64 y6, .int .i64 y7] 103)).drew.drew.below hb (by simp; omega)
        have hy := (BlockAt.new (w.alloc (.cells #[.int .i64 0, .int .i64 0, .int .i64 0, .int .i64 0, .int .i64 0, .int .i64 0, .int .i64 0] 103)) 103 [.int .i64 y0, .int .i64 y1, .int .i64 (256 * y2 + y3), .int .i64 y4, .int .i64 y5, .int .i64 y6, .int .i64 y7]).drew.drew.below hb (by simp)
        rw [World.size_alloc] at hy
        have hb2 := hb0.trans (hb.mono (by simp; omega))
        have k1 := hx.cells
        have f1 := hx.frees
        have l1 := hx.lt
        have k2 := hy.cells
        have f2 := hy.frees
        have l2 := hy.lt
        have HB2 := Lib.hid hb2
        clear hb hb0 hb2 hx hy
        go_wp2
        refine bodyPost_ret (v := .tuple #[.agg #[.int .i64 y0, .int .i64 y1, .int .i64 (256 * y2 + y3), .int .i64 y4, .int .i64 y5, .int .i64 y6, .int .i64 y7], .int .i64 0]) (by simp [results, Tryz.results106, go_sem, k1, k2, l1, l2, f1, f2]) rfl ⟨rfl, ?_⟩
        iterate 7 refine Below.setCell ?_ (by exact Nat.le_refl _) _
        exact HB2.out
      · rw [if_pos hk]
        obtain ⟨C, hC⟩ : ∃ C, chkR ⟨(y0 : Int), ⟨(y1 : Int), 256 * (y2 : Int) + (y3 : Int), (y4 : Int), (y5 : Int), (y6 : Int), (y7 : Int)⟩⟩ = C := ⟨_, rfl⟩
        rw [hC] at hk
        have hk1 : (C != 0) = true := by simpa using hk
        rw [hC]
        have HK := Lib.hid hC; clear hC hk
        go_enter Tryz.func106, Tryz.ntmps106
        go_wp2
        refine wp_region_lex (fun W => W.cell? ⟨g, off + 8, none⟩ = some (.int .u8 (y8 : Int))) [2] (by kernel_rfl) (by kernel_rfl) (by go_simp) ?_
        repeat (first | (refine LexL.none (by rfl) ?_; (try simp only [Act.put, List.setIfInBounds_toArray, List.set_cons_zero, List.set_cons_succ])) | (refine LexL.still (v := ?_) (by rfl) ?_ ?_; rotate_left; (focus (intro W hW; (try dsimp only at hW); go_simp; (try (with_reducible rfl)); done)); (try simp only [Act.put, List.setIfInBounds_toArray, List.set_cons_zero, List.set_cons_succ])))
        refine LexL.call (f := 124) (args := #[.slice (some ⟨g, off, none⟩) 8 c]) (w1 := (w.alloc (.cells #[.int .i64 0, .int .i64 0, .int .i64 0, .int .i64 0, .int .i64 0, .int .i64 0, .int .i64 0] 103)).drew) (by rfl) (by decide) (by go_simp) ?_
        refine (csum_any _ (l.take 8) _ (HT.out.upd (Upd.drew (Upd.alloc (F := fun _ => False) (Upd.refl _ _) _)) (fun _ _ h => h)) (by simp; omega)).mono ?_
        rw [HCS.out]
        rintro e w1 ⟨rfl, rfl⟩
        refine ⟨_, rfl, by go_simp, ?_⟩
        try simp only [Act.put, List.setIfInBounds_toArray, List.set_cons_zero, List.set_cons_succ]
        repeat (first | (refine LexL.none (by rfl) ?_; (try simp only [Act.put, List.setIfInBounds_toArray, List.set_cons_zero, List.set_cons_succ])) | (refine LexL.still (v := ?_) (by rfl) ?_ ?_; rotate_left; (focus (intro W hW; (try dsimp only at hW); go_simp; (try (with_reducible rfl)); done)); (try simp only [Act.put, List.setIfInBounds_toArray, List.set_cons_zero, List.set_cons_succ])))
        refine LexL.done ?_
        go_wp2
        refine wp_region_lex (fun W => W.cell? ⟨g, off, none⟩ = some (.int .u8 (y0 : Int)) ∧ W.cell? ⟨g, off + 1, none⟩ = some (.int .u8 (y1 : Int)) ∧ W.cell? ⟨g, off + 2, none⟩ = some (.int .u8 (y2 : Int)) ∧ W.cell? ⟨g, off + 3, none⟩ = some (.int .u8 (y3 : Int)) ∧ W.cell? ⟨g, off + 4, none⟩ = some (.int .u8 (y4 : Int)) ∧ W.cell? ⟨g, off + 5, none⟩ = some (.int .u8 (y5 : Int)) ∧ W.cell? ⟨g, off + 6, none⟩ = some (.int .u8 (y6 : Int)) ∧ W.cell? ⟨g, off + 7, none⟩ = some (.int .u8 (y7 : Int))) [36, 37] (by kernel_rfl) (by kernel_rfl) (by refine ⟨?_, ?_, ?_, ?_, ?_, ?_, ?_, ?_⟩ <;> go_simp) ?_
        repeat (first | (refine LexL.none (by rfl) ?_; (try simp only [Act.put, List.setIfInBounds_toArray, List.set_cons_zero, List.set_cons_succ])) | (refine LexL.still (v := ?_) (by rfl) ?_ ?_; rotate_left; (focus (intro W hW; (try dsimp only at hW); go_simp; (try (with_reducible rfl)); done)); (try simp only [Act.put, List.setIfInBounds_toArray, List.set_cons_zero, List.set_cons_succ])))
        refine LexL.value (v := .pointer (some ⟨w.heap.size + 1, 0, none⟩)) (w1 := (w.alloc (.cells #[.int .i64 0, .int .i64 0, .int .i64 0, .int .i64 0, .int .i64 0, .int .i64 0, .int .i64 0] 103)).drew.drew.alloc (.cells #[.int .i64 0, .int .i64 0, .int .i64 0, .int .i64 0, .int .i64 0, .int .i64 0, .int .i64 0] 103)) (by rfl) (by decide) (by go_simp) (by refine ⟨?_, ?_, ?_, ?_, ?_, ?_, ?_, ?_⟩ <;> go_simp) ?_
        try simp only [Act.put, List.setIfInBounds_toArray, List.set_cons_zero, List.set_cons_succ]
        refine LexL.store (by rfl) (by decide) (by go_simp; rfl) (by refine ⟨?_, ?_, ?_, ?_, ?_, ?_, ?_, ?_⟩ <;> go_simp) ?_
        try simp only [Act.put, List.setIfInBounds_toArray, List.set_cons_zero, List.set_cons_succ]
        refine LexL.done ?_
        go_wp2_with fail
        refine (ccheck_any _ _ _ _ _ _ _ _).mono ?_
        rw [HK.out]
        rintro e w2 ⟨rfl, hb⟩
        have hb0 := (((Below.refl w.heap.size w).alloc (Nat.le_refl _) (.cells #[.int .i64 0, .int .i64 0, .int .i64 0, .int .i64 0, .int .i64 0, .int .i64 0, .int .i64 0] 103)).alloc (by simp) (.cells #[.int .i64 y0, .int .i64 y1, .int .i64 (256 * y2 + y3), .int .i64 y4, .int .i64 y5, .int .i64 y6, .int .i64 y7] 103)).drew.drew
        have hx := ((BlockAt.new w 103 [.int .i64 0, .int .i64 0, .int .i64 0, .int .i64 0, .int .i64 0, .int .i64 0, .int .i64 0]).alloc (.cells #[.int .i64 y0, .int .i64 y1, .int .i64 (256 * y2 + y3), .int .i64 y4, .int .i64 y5, .int .i64 y6, .int .i64 y7] 103)).drew.drew.below hb (by simp; omega)
        have hy := (BlockAt.new (w.alloc (.cells #[.int .i64 0, .int .i64 0, .int .i64 0, .int .i64 0, .int .i64 0, .int .i64 0, .int .i64 0] 103)) 103 [.int .i64 y0, .int .i64 y1, .int .i64 (256 * y2 + y3), .int .i64 y4, .int .i64 y5, .int .i64 y6, .int .i64 y7]).drew.drew.below hb (by simp)
        rw [World.size_alloc] at hy
        have hb2 := hb0.trans (hb.mono (by simp; omega))
        have k1 := hx.cells
        have f1 := hx.frees
        have l1 := hx.lt
        have k2 := hy.cells
        have f2 := hy.frees
        have l2 := hy.lt
        have HB2 := Lib.hid hb2
        clear hb hb0 hb2 hx hy
        go_wp2
        refine bodyPost_ret (v := .tuple #[.agg #[.int .i64 0, .int .i64 0, .int .i64 0, .int .i64 0, .int .i64 0, .int .i64 0, .int .i64 0], .int .i64 C]) (by simp [results, Tryz.results106, go_sem, k1, k2, l1, l2, f1, f2]) rfl ⟨rfl, ?_⟩
        iterate 7 refine Below.setCell ?_ (by exact Nat.le_refl _) _
        exact HB2.out
    · have hs2 : (((csum (l.take 8)).toNat : Int) != ((l.getD 8 0).toNat : Int)) = true := u8_ne _ _ hs
      rw [show decB l = (Rec.zero, 2) by rw [decB, if_neg h9, if_pos hs]]
      generalize (l.getD 8 0).toNat = y8 at *
      generalize hcs : (csum (l.take 8)).toNat = cs at *
      have HCS := Lib.hid hcs; clear hcs hc
      go_enter Tryz.func106, Tryz.ntmps106
      go_wp2
      refine wp_region_lex (fun W => W.cell? ⟨g, off + 8, none⟩ = some (.int .u8 (y8 : Int))) [2] (by kernel_rfl) (by kernel_rfl) (by go_simp) ?_
      repeat (first | (refine LexL.none (by rfl) ?_; (try simp only [Act.put, List.setIfInBounds_toArray, List.set_cons_zero, List.set_cons_succ])) | (refine LexL.still (v := ?_) (by rfl) ?_ ?_; rotate_left; (focus (intro W hW; (try dsimp only at hW); go_simp; (try (with_reducible rfl)); done)); (try simp only [Act.put, List.setIfInBounds_toArray, List.set_cons_zero, List.set_cons_succ])))
      refine LexL.call (f := 124) (args := #[.slice (some ⟨g, off, none⟩) 8 c]) (w1 := (w.alloc (.cells #[.int .i64 0, .int .i64 0, .int .i64 0, .int .i64 0, .int .i64 0, .int .i64 0, .int .i64 0] 103)).drew) (by rfl) (by decide) (by go_simp) ?_
      refine (csum_any _ (l.take 8) _ (HT.out.upd (Upd.drew (Upd.alloc (F := fun _ => False) (Upd.refl _ _) _)) (fun _ _ h => h)) (by simp; omega)).mono ?_
      rw [HCS.out]
      rintro e w1 ⟨rfl, rfl⟩
      refine ⟨_, rfl, by go_simp, ?_⟩
      try simp only [Act.put, List.setIfInBounds_toArray, List.set_cons_zero, List.set_cons_succ]
      repeat (first | (refine LexL.none (by rfl) ?_; (try simp only [Act.put, List.setIfInBounds_toArray, List.set_cons_zero, List.set_cons_succ])) | (refine LexL.still (v := ?_) (by rfl) ?_ ?_; rotate_left; (focus (intro W hW; (try dsimp only at hW); go_simp; (try (with_reducible rfl)); done)); (try simp only [Act.put, List.setIfInBounds_toArray, List.set_cons_zero, List.set_cons_succ])))
      refine LexL.done ?_
      go_wp2
      refine bodyPost_ret (v := .tuple #[.agg #[.int .i64 0, .int .i64 0, .int .i64 0, .int .i64 0, .int .i64 0, .int .i64 0, .int .i64 0], .int .i64 2]) (by simp [results, Tryz.results106, go_sem]) rfl ⟨rfl, ?_⟩
      exact ((Below.refl _ _).alloc (Nat.le_refl _) _).drew
end Go.Proofs.YtfihmpkkpgmdhaaGreatDoor


namespace Go.Proofs.YtfihmpkkpgmdhaaGreatDoor
set_option maxRecDepth 100000
set_option linter.unusedSimpArgs false
set_option linter.unusedVariables false
open Go.RowKit
/-- The cells of records. -/
def rvs (l : List Rec) : List Value := l.flatMap rcells
theorem rcells_length (r : Rec) : (rcells r).length = 7 := rfl
theorem rvs_length (l : List Rec) : (rvs l).length = l.length * 7 := by
  induction l with
  | nil => rfl
  | cons r l ih => simp only [rvs, List.flatMap_cons, List.length_append, List.length_cons] at *; rw [ih, rcells_length]; omega
theorem rvs_append (l m : List Rec) : rvs (l ++ m) = rvs l ++ rvs m := by simp [rvs]
theorem rvs_get (l : List Rec) : ∀ (i j : Nat), j < 7 → (rvs l)[i * 7 + j]? = (l[i]?).bind fun r => (rcells r)[j]? := by
  induction l with
  | nil => intro i j _; simp [rvs]
  | cons r l ih =>
    intro i j hj
    have e : rvs (r :: l) = rcells r ++ rvs l := by simp [rvs]
    rw [e]
    cases i with
    | zero => rw [List.getElem?_append_left (by rw [rcells_length]; omega)]; simp
    | succ i =>
      rw [List.getElem?_append_right (by rw [rcells_length]; omega), rcells_length, show (i + 1) * 7 + j - 7 = i * 7 + j by omega, ih i j hj]
      simp
theorem rvs_ones (l : List Rec) : ∀ u ∈ rvs l, u.oneCell' = true := by
  intro u hu
  simp only [rvs, List.mem_flatMap, rcells] at hu
  obtain ⟨x, _, h⟩ := hu
  simp at h
  rcases h with rfl | rfl | rfl | rfl | rfl | rfl | rfl <;> rfl
/-- Records that one owns. -/
def OwnR (w : World) (base : Nat) (v : Value) (l : List Rec) : Prop := w.ownsRow base 103 7 v l.length (rvs l)
theorem ownsRow_upd {F : Nat → Prop} {w w' : World} {base : Nat} {e : TypeId} {size : Nat} {v : Value} {n : Nat} {xs : List Value} (h : w.ownsRow base e size v n xs) (hu : Upd F w w') (hf : ∀ k, v.ownBlock = some k → ¬ F k) : w'.ownsRow base e size v n xs := by
  obtain ⟨h1, h | ⟨g, cap, cur, rfl, hb, hh, hr⟩⟩ := h
  · exact ⟨h1, .inl h⟩
  · refine ⟨h1, .inr ⟨g, cap, cur, rfl, hb, ?_, hr⟩⟩
    exact BlockAt.upd (cs := cur.toList) hh hu (hf g rfl)
theorem OwnR.nil (w : World) (base : Nat) : OwnR w base (.slice none 0 0) [] := ⟨rfl, .inl ⟨rfl, rfl⟩⟩
theorem OwnR.upd {F : Nat → Prop} {w w' : World} {base : Nat} {v : Value} {l : List Rec} (h : OwnR w base v l) (hu : Upd F w w') (hf : ∀ k, v.ownBlock = some k → ¬ F k) : OwnR w' base v l := ownsRow_upd h hu hf
theorem OwnR.ge {w : World} {base : Nat} {v : Value} {l : List Rec} (h : OwnR w base v l) {k : Nat} (hk : v.ownBlock = some k) : base ≤ k := by
  obtain ⟨h1, ⟨rfl, _⟩ | ⟨g, cap, cur, rfl, hb, _⟩⟩ := h
  · simp [Value.ownBlock] at hk
  · simp [Value.ownBlock] at hk; omega
theorem OwnR.lt {w : World} {base : Nat} {v : Value} {l : List Rec} (h : OwnR w base v l) {k : Nat} (hk : v.ownBlock = some k) : k < w.heap.size := by
  obtain ⟨h1, ⟨rfl, _⟩ | ⟨g, cap, cur, rfl, hb, hh, _⟩⟩ := h
  · simp [Value.ownBlock] at hk
  · simp [Value.ownBlock] at hk
    subst hk
    exact (Array.getElem?_eq_some_iff.1 hh).1
theorem OwnR.mono {w : World} {b b' : Nat} {v : Value} {l : List Rec} (h : OwnR w b v l) (hb : b' ≤ b) : OwnR w b' v l := by
  obtain ⟨h1, h | ⟨g, cap, cur, rfl, hg, hr⟩⟩ := h
  · exact ⟨h1, .inl h⟩
  · exact ⟨h1, .inr ⟨g, cap, cur, rfl, Nat.le_trans hb hg, hr⟩⟩
theorem BytesAt.drop {w : World} {g off n c : Nat} {l : List UInt8} (h : BytesAt w (.slice (some ⟨g, off, none⟩) n c) l) {q : Nat} (hq : q ≤ l.length) : BytesAt w (.slice (some ⟨g, off + q, none⟩) (n - q) (c - q)) (l.drop q) := by
  obtain ⟨a', c', e, h1, h2, h3, h4⟩ := h
  simp only [Value.slice.injEq] at e
  obtain ⟨rfl, rfl, rfl⟩ := e
  refine ⟨some ⟨g, off + q, none⟩, c - q, by rw [List.length_drop], by rw [List.length_drop]; omega, by omega, (fun e => by cases e), fun hne => ?_⟩
  obtain ⟨g', off', e, h5⟩ := h4 (by intro e; subst e; simp at hne)
  simp at e
  obtain ⟨rfl, rfl⟩ := e
  refine ⟨g, off + q, rfl, fun j u hu => ?_⟩
  rw [Nat.add_assoc]
  refine h5 (q + j) u ?_
  simpa [bvs, List.map_drop, List.getElem?_drop] using hu
theorem Tryz.infoRec : (Tryz.prog.info? 103).map (fun i => (i.zero, i.size, i.bytes)) = some (some (.agg #[.int .i64 0, .int .i64 0, .int .i64 0, .int .i64 0, .int .i64 0, .int .i64 0, .int .i64 0]), 7, 56) := by kernel_rfl
section
variable {P : Program}
/-- append of one record, laid in a block of its own, to records that one owns. -/
theorem wpList_append_rec {w : World} {ops : Array Oper} {rest : List Oper} {o : Oper} {a : Act} {Q : Exit → Act → World → Prop} (hgd : o.guard = none) (s x : Operand) (t : TypeId)
    (ho : o.op = .call { callee := .builtin .append, args := #[s, x], argTypes := #[t, t] })
    (i : TypeInfo) (ht : P.underlying t = some (.slice 103)) (hi : P.info? 103 = some i) (hz : i.zero = some (.agg #[.int .i64 0, .int .i64 0, .int .i64 0, .int .i64 0, .int .i64 0, .int .i64 0, .int .i64 0])) (hsz : i.size = 7) (hby : i.bytes = 56)
    {base : Nat} {v : Value} {g c : Nat} {l : List Rec} {r : Rec} (hs : a.eval s = v) (hx : a.eval x = .slice (some ⟨g, 0, none⟩) 1 c) (hv : OwnR w base v l) (hy : BlockAt w g 103 (rcells r)) (hlen : l.length ≤ 100000) (hbase : base ≤ w.heap.size)
    (h : ∀ v' w', OwnR w' base v' (l ++ [r]) → w.grownBy w' v.ownBlock → wpList P ops Q rest (a.put o.dst v') w') : wpList P ops Q (o :: rest) a w :=
  wpList_append_own w hgd s x t ho base 103 i _ 7 56 ht hi hz hsz hby rfl (by decide) v l.length (rvs l) hs hv ⟨g, 0, none⟩ 1 c (rcells r) hx rfl
    (fun j u hj => by rw [Addr.add_lit, Nat.zero_add]; exact hy.cell j u hj)
    (by intro u hu; exact rvs_ones [r] u (by simpa [rvs] using hu))
    (by unfold maxLen; omega) (by omega) hbase
    fun v' w' h1 h2 h3 => h v' w' (by unfold OwnR; rw [rvs_append, List.length_append]; simpa [rvs] using h1) h2
end
end Go.Proofs.YtfihmpkkpgmdhaaGreatDoor

/-
  Assertions on memory, with footprints: what stands where, apart from all else.
-/
namespace Go.Proofs.YtfihmpkkpgmdhaaGreatDoor
set_option linter.unusedSimpArgs false
set_option linter.unusedVariables false
open Go.RowKit

/-- An assertion on the blocks of a set. -/
structure HP where
  on : (Nat → Prop) → World → Prop
  lt : ∀ {F : Nat → Prop} {w : World}, on F w → ∀ k, F k → k < w.heap.size
  keep : ∀ {F : Nat → Prop} {w w' : World}, on F w → (∀ k, F k → w'.heap[k]? = w.heap[k]?) → on F w'
theorem HP.ext' {A B : HP} (h : ∀ F w, A.on F w ↔ B.on F w) : A = B := by
  obtain ⟨a, _, _⟩ := A
  obtain ⟨b, _, _⟩ := B
  have : a = b := by funext F w; exact propext (h F w)
  subst this
  rfl
def HP.sep (A B : HP) : HP where
  on F w := ∃ F1 F2 : Nat → Prop, (∀ k, F1 k → ¬ F2 k) ∧ (∀ k, F k ↔ F1 k ∨ F2 k) ∧ A.on F1 w ∧ B.on F2 w
  lt := fun ⟨F1, F2, _, hF, ha, hb⟩ k hk => ((hF k).1 hk).elim (A.lt ha k) (B.lt hb k)
  keep := fun ⟨F1, F2, hd, hF, ha, hb⟩ h => ⟨F1, F2, hd, hF, A.keep ha fun k hk => h k ((hF k).2 (.inl hk)), B.keep hb fun k hk => h k ((hF k).2 (.inr hk))⟩
instance : Mul HP := ⟨HP.sep⟩
theorem HP.mul_on {A B : HP} {F : Nat → Prop} {w : World} : (A * B).on F w ↔ ∃ F1 F2 : Nat → Prop, (∀ k, F1 k → ¬ F2 k) ∧ (∀ k, F k ↔ F1 k ∨ F2 k) ∧ A.on F1 w ∧ B.on F2 w := Iff.rfl
theorem HP.comm (A B : HP) : A * B = B * A := HP.ext' fun F w => ⟨fun ⟨F1, F2, hd, hF, ha, hb⟩ => ⟨F2, F1, fun k h2 h1 => hd k h1 h2, fun k => (hF k).trans Or.comm, hb, ha⟩, fun ⟨F1, F2, hd, hF, ha, hb⟩ => ⟨F2, F1, fun k h2 h1 => hd k h1 h2, fun k => (hF k).trans Or.comm, hb, ha⟩⟩
theorem HP.assoc (A B C : HP) : A * B * C = A * (B * C) := HP.ext' fun F w => by
  constructor
  · rintro ⟨F12, F3, hd, hF, ⟨F1, F2, hd', hF', ha, hb⟩, hc⟩
    refine ⟨F1, fun k => F2 k ∨ F3 k, fun k h1 h2 => ?_, fun k => ?_, ha, F2, F3, fun k h2 h3 => hd k ((hF' k).2 (.inr h2)) h3, fun k => Iff.rfl, hb, hc⟩
    · rcases h2 with h2 | h2
      · exact hd' k h1 h2
      · exact hd k ((hF' k).2 (.inl h1)) h2
    · rw [hF, hF', or_assoc]
  · rintro ⟨F1, F23, hd, hF, ha, F2, F3, hd', hF', hb, hc⟩
    refine ⟨fun k => F1 k ∨ F2 k, F3, fun k h1 h3 => ?_, fun k => ?_, ⟨F1, F2, fun k h1 h2 => hd k h1 ((hF' k).2 (.inl h2)), fun k => Iff.rfl, ha, hb⟩, hc⟩
    · rcases h1 with h1 | h1
      · exact hd k h1 ((hF' k).2 (.inr h3))
      · exact hd' k h1 h3
    · rw [hF, hF', or_assoc]
instance : Std.Associative (α := HP) (· * ·) := ⟨HP.assoc⟩
instance : Std.Commutative (α := HP) (· * ·) := ⟨HP.comm⟩

/-- Nothing asked. -/
def HP.emp : HP where
  on F w := ∀ k, ¬ F k
  lt := fun h k hk => absurd hk (h k)
  keep := fun h _ => h
def HP.ex {α : Type} (A : α → HP) : HP where
  on F w := ∃ x, (A x).on F w
  lt := fun ⟨x, h⟩ => (A x).lt h
  keep := fun ⟨x, h⟩ hk => ⟨x, (A x).keep h hk⟩
/-- With a fact beside it. -/
def HP.wi (p : Prop) (A : HP) : HP where
  on F w := p ∧ A.on F w
  lt := fun h => A.lt h.2
  keep := fun h hk => ⟨h.1, A.keep h.2 hk⟩

def Holds (w : World) (A : HP) : Prop := ∃ F, A.on F w
theorem Holds.eq {w : World} {A B : HP} (h : Holds w A) (e : A = B) : Holds w B := e ▸ h
theorem Holds.left {w : World} {A B : HP} (h : Holds w (A * B)) : Holds w A := by
  obtain ⟨F, F1, F2, _, _, ha, _⟩ := h
  exact ⟨F1, ha⟩
theorem Holds.right {w : World} {A B : HP} (h : Holds w (A * B)) : Holds w B := by
  obtain ⟨F, F1, F2, _, _, _, hb⟩ := h
  exact ⟨F2, hb⟩
theorem Holds.swap {w : World} {A B : HP} (h : Holds w (A * B)) : Holds w (B * A) := h.eq (HP.comm _ _)
/-- The first of three, and so on, taken to the front. -/
theorem Holds.two {w : World} {A B C : HP} (h : Holds w (A * (B * C))) : Holds w (B * (A * C)) := h.eq (by ac_rfl)
theorem Holds.three {w : World} {A B C D : HP} (h : Holds w (A * (B * (C * D)))) : Holds w (C * (A * (B * D))) := h.eq (by ac_rfl)
theorem Holds.four {w : World} {A B C D E : HP} (h : Holds w (A * (B * (C * (D * E))))) : Holds w (D * (A * (B * (C * E)))) := h.eq (by ac_rfl)
/-- What is held at its place may be said otherwise. -/
theorem Holds.imp {w : World} {A B R : HP} (h : Holds w (A * R)) (hi : ∀ F, A.on F w → B.on F w) : Holds w (B * R) := by
  obtain ⟨F, F1, F2, hd, hF, ha, hb⟩ := h
  exact ⟨F, F1, F2, hd, hF, hi _ ha, hb⟩
theorem Holds.open {w : World} {A R : HP} (h : Holds w (A * R)) : ∃ F, A.on F w ∧ ∀ (w' : World) (F' : Nat → Prop) (B : HP), B.on F' w' → Upd F w w' → From w F F' → Holds w' (B * R) := by
  obtain ⟨F, F1, F2, hd, hF, ha, hb⟩ := h
  refine ⟨F1, ha, fun w' F' B hB hu hf => ?_⟩
  refine ⟨_, F', F2, fun k h1 h2 => ?_, fun k => Iff.rfl, hB, R.keep hb fun k hk => hu.block k (R.lt hb k hk) fun h => hd k h hk⟩
  rcases hf k h1 with h3 | h3
  · exact hd k h3 h2
  · have := R.lt hb k h2; omega
/-- All that stood stands. -/
theorem Holds.to {w w' : World} {A : HP} (h : Holds w A) (hb : ∀ k, k < w.heap.size → w'.heap[k]? = w.heap[k]?) : Holds w' A := by
  obtain ⟨F, ha⟩ := h
  exact ⟨F, A.keep ha fun k hk => hb k (A.lt ha k hk)⟩
theorem Holds.below {w w' : World} {A : HP} (h : Holds w A) (hb : Below w.heap.size w w') : Holds w' A := h.to hb.block
theorem Holds.drew {w : World} {A : HP} (h : Holds w A) : Holds w.drew A := h.to fun _ _ => rfl
theorem Holds.drewN {w : World} {A : HP} (h : Holds w A) (n : Nat) : Holds (w.drewN n) A := h.to fun _ _ => rfl
theorem Holds.alloc {w : World} {A : HP} (h : Holds w A) (o : Obj) : Holds (w.alloc o) A := h.to fun k hk => Below.heap_alloc w o k hk
/-- Something new beside it. -/
theorem Holds.new {w w' : World} {A B : HP} (h : Holds w A) (hb : ∀ k, k < w.heap.size → w'.heap[k]? = w.heap[k]?) {F : Nat → Prop} (hB : B.on F w') (hF : ∀ k, F k → w.heap.size ≤ k) : Holds w' (B * A) := by
  obtain ⟨G, ha⟩ := h
  exact ⟨_, F, G, fun k h1 h2 => by have := hF k h1; have := A.lt ha k h2; omega, fun k => Iff.rfl, hB, A.keep ha fun k hk => hb k (A.lt ha k hk)⟩

/-- A block. -/
def bl (b : Nat) (ty : TypeId) (cs : List Value) : HP where
  on F w := BlockAt w b ty cs ∧ F = fun k => k = b
  lt := by rintro F w ⟨h, rfl⟩ k rfl; exact h.lt
  keep := by rintro F w w' ⟨h, rfl⟩ hk; exact ⟨by unfold BlockAt at *; rw [hk b rfl]; exact h, rfl⟩
/-- Bytes that one owns. -/
def ownb (v : Value) (l : List UInt8) : HP where
  on F w := OwnB w v l ∧ F = fun k => v.ownBlock = some k
  lt := by rintro F w ⟨h, rfl⟩ k hk; exact h.lt hk
  keep := by
    rintro F w w' ⟨h, rfl⟩ hk
    refine ⟨?_, rfl⟩
    rcases h with h | ⟨g, cap, cur, rfl, hb, hr⟩
    · exact .inl h
    · exact .inr ⟨g, cap, cur, rfl, by unfold BlockAt at *; rw [hk g rfl]; exact hb, hr⟩
/-- All that there was at w0, as it was. -/
def old (w0 : World) : HP where
  on F w := (∀ k, k < w0.heap.size → w.heap[k]? = w0.heap[k]?) ∧ F = fun k => k < w0.heap.size
  lt := by
    rintro F w ⟨h, rfl⟩ k hk
    have := h k hk
    rw [Array.getElem?_eq_getElem hk] at this
    exact (Array.getElem?_eq_some_iff.1 this).1
  keep := by rintro F w w' ⟨h, rfl⟩ hk; exact ⟨fun k h1 => (hk k h1).trans (h k h1), rfl⟩

/-- Nothing outside memory is other; no block is gone. -/
structure Quiet (w w' : World) : Prop where
  os : w'.os = w.os
  tape : w'.tape = w.tape
  output : w'.output = w.output
  size : w.heap.size ≤ w'.heap.size
theorem Quiet.refl (w : World) : Quiet w w := ⟨rfl, rfl, rfl, Nat.le_refl _⟩
theorem Quiet.trans {a b c : World} (h : Quiet a b) (k : Quiet b c) : Quiet a c := ⟨k.os.trans h.os, k.tape.trans h.tape, k.output.trans h.output, Nat.le_trans h.size k.size⟩
theorem Quiet.below {a b : World} {B : Nat} (k : Below B a b) : Quiet a b := ⟨k.os, k.tape, k.output, k.size⟩
theorem Quiet.grown {a b : World} {r : Option Nat} (k : a.grownBy b r) : Quiet a b := ⟨k.os, k.tape, k.output, k.size⟩
theorem Quiet.upd {a b : World} {F : Nat → Prop} (k : Upd F a b) : Quiet a b := ⟨k.os, k.tape, k.output, k.size⟩
theorem Quiet.alloc {a b : World} (h : Quiet a b) (o : Obj) : Quiet a (b.alloc o) := ⟨h.os, h.tape, h.output, Nat.le_trans h.size (by simp)⟩
theorem Quiet.drew {a b : World} (h : Quiet a b) : Quiet a b.drew := ⟨h.os, h.tape, h.output, h.size⟩
theorem Quiet.drewN {a b : World} (h : Quiet a b) (n : Nat) : Quiet a (b.drewN n) := ⟨h.os, h.tape, h.output, h.size⟩
theorem Quiet.setCell {a b : World} (h : Quiet a b) (p : Addr) (u : Value) : Quiet a (b.setCell p u) := ⟨h.os, h.tape, h.output, by simpa [World.setCell] using h.size⟩

theorem Holds.old {w : World} : Holds w (old w) := ⟨_, fun _ _ => rfl, rfl⟩
theorem Holds.toBelow {w0 w : World} {A : HP} (h : Holds w (A * Go.Proofs.YtfihmpkkpgmdhaaGreatDoor.old w0)) (q : Quiet w0 w) : Below w0.heap.size w0 w := by
  obtain ⟨F, h, rfl⟩ := h.right
  exact ⟨q.os, q.tape, q.output, q.size, h⟩
theorem Holds.toBelow' {w0 w : World} (h : Holds w (Go.Proofs.YtfihmpkkpgmdhaaGreatDoor.old w0)) (q : Quiet w0 w) : Below w0.heap.size w0 w := by
  obtain ⟨F, h, rfl⟩ := h
  exact ⟨q.os, q.tape, q.output, q.size, h⟩
theorem Holds.bl {w : World} {b : Nat} {ty : TypeId} {cs : List Value} {A : HP} (h : Holds w (bl b ty cs * A)) : BlockAt w b ty cs := by
  obtain ⟨F, h, _⟩ := h.left
  exact h
theorem Holds.ownb {w : World} {v : Value} {l : List UInt8} {A : HP} (h : Holds w (ownb v l * A)) : OwnB w v l := by
  obtain ⟨F, h, _⟩ := h.left
  exact h
theorem Holds.allocB {w : World} {A : HP} (h : Holds w A) (ty : TypeId) (cs : List Value) : Holds (w.alloc (.cells cs.toArray ty)) (Go.Proofs.YtfihmpkkpgmdhaaGreatDoor.bl w.heap.size ty cs * A) :=
  h.new (fun k hk => Below.heap_alloc w _ k hk) ⟨BlockAt.new w ty cs, rfl⟩ (by rintro k rfl; exact Nat.le_refl _)
theorem Holds.setB {w : World} {b : Nat} {ty : TypeId} {cs : List Value} {A : HP} (h : Holds w (Go.Proofs.YtfihmpkkpgmdhaaGreatDoor.bl b ty cs * A)) (o : Nat) (v : Value) : Holds (w.setCell ⟨b, o, none⟩ v) (Go.Proofs.YtfihmpkkpgmdhaaGreatDoor.bl b ty (cs.set o v) * A) := by
  obtain ⟨F, ⟨hb, rfl⟩, hn⟩ := h.open
  exact hn _ _ _ ⟨hb.set o v, rfl⟩ (Upd.setCell (F := fun k => k = b) (p := ⟨b, o, none⟩) (Upd.refl _ w) (.inl rfl) v) (From.refl _ _)
theorem Holds.grown {w w' : World} {b : Nat} {ty : TypeId} {cs cs' : List Value} {A : HP} (h : Holds w (Go.Proofs.YtfihmpkkpgmdhaaGreatDoor.bl b ty cs * A)) (hg : w.grownBy w' (some b)) (hb : BlockAt w' b ty cs') : Holds w' (Go.Proofs.YtfihmpkkpgmdhaaGreatDoor.bl b ty cs' * A) := by
  obtain ⟨F, ⟨_, rfl⟩, hn⟩ := h.open
  exact hn _ _ _ ⟨hb, rfl⟩ ((Upd.of_grown hg).mono (by rintro k h; simp at h; exact h.symm)) (From.refl _ _)
/-- Something new of a call that turned nothing. -/
theorem Holds.newB {w w' : World} {b : Nat} {ty : TypeId} {cs : List Value} {A : HP} (h : Holds w A) (hb : Below w.heap.size w w') (hn : BlockAt w' b ty cs) (hl : w.heap.size ≤ b) : Holds w' (Go.Proofs.YtfihmpkkpgmdhaaGreatDoor.bl b ty cs * A) :=
  h.new hb.block ⟨hn, rfl⟩ (by rintro k rfl; exact hl)
theorem Holds.newO {w w' : World} {v : Value} {l : List UInt8} {A : HP} (h : Holds w A) (hb : Below w.heap.size w w') (hn : OwnB w' v l) (hl : ∀ k, v.ownBlock = some k → w.heap.size ≤ k) : Holds w' (Go.Proofs.YtfihmpkkpgmdhaaGreatDoor.ownb v l * A) :=
  h.new hb.block ⟨hn, rfl⟩ hl

/-- What stands beside all that there was stands beside any of it. -/
theorem Holds.frame {w w' : World} {Q R : HP} (h : Holds w' (Q * Go.Proofs.YtfihmpkkpgmdhaaGreatDoor.old w)) (hR : Holds w R) : Holds w' (Q * R) := by
  obtain ⟨F, F1, F2, hd, hF, ha, ho, rfl⟩ := h
  obtain ⟨G, hG⟩ := hR
  exact ⟨_, F1, G, fun k h1 h2 => hd k h1 (R.lt hG k h2), fun k => Iff.rfl, ha, R.keep hG fun k hk => ho k (R.lt hG k hk)⟩
theorem Holds.frame0 {w w' : World} {R : HP} (h : Holds w' (Go.Proofs.YtfihmpkkpgmdhaaGreatDoor.old w)) (hR : Holds w R) : Holds w' R := by
  obtain ⟨F, ho, rfl⟩ := h
  exact hR.to ho
theorem Holds.block {w0 w : World} (h : Holds w (Go.Proofs.YtfihmpkkpgmdhaaGreatDoor.old w0)) : ∀ k, k < w0.heap.size → w.heap[k]? = w0.heap[k]? := by
  obtain ⟨F, ho, rfl⟩ := h
  exact ho
/-- What is answered; what stands behind it, beside what stood. -/
def Post (w : World) (R : HP) (v : Value) (Q : HP) (e : Ending) (w' : World) : Prop := e = .returned v ∧ Quiet w w' ∧ Holds w' (Q * R)
def PostN (w : World) (R : HP) (v : Value) (e : Ending) (w' : World) : Prop := e = .returned v ∧ Quiet w w' ∧ Holds w' R
def PostX {α : Type} (w : World) (R : HP) (v : α → Value) (Q : α → HP) (e : Ending) (w' : World) : Prop := ∃ x, e = .returned (v x) ∧ Quiet w w' ∧ Holds w' (Q x * R)
end Go.Proofs.YtfihmpkkpgmdhaaGreatDoor

/-
  Slices of any element: read, or owned; append.
-/
namespace Go.Proofs.YtfihmpkkpgmdhaaGreatDoor
set_option linter.unusedSimpArgs false
set_option linter.unusedVariables false
open Go.RowKit

/-- A slice of n elements that reads as these cells. -/
def RowAt (w : World) (v : Value) (n : Nat) (cs : List Value) : Prop :=
  ∃ a c, v = .slice a n c ∧ n ≤ c ∧ c ≤ maxLen ∧ (a = none → c = 0) ∧ (n ≠ 0 → ∃ g off, a = some ⟨g, off, none⟩ ∧ ∀ j u, cs[j]? = some u → w.cell? ⟨g, off + j, none⟩ = some u)
/-- One that is owned: its block. -/
def OwnRow (w : World) (e : TypeId) (size : Nat) (v : Value) (n : Nat) (xs : List Value) : Prop :=
  xs.length = n * size ∧ Ones xs ∧ ((v = .slice none 0 0 ∧ n = 0) ∨
    ∃ g cap cur, v = .slice (some ⟨g, 0, none⟩) n cap ∧ BlockAt w g e cur ∧ n ≤ cap ∧ cap * size ≤ cur.length ∧ cap ≤ maxLen ∧ cur.take (n * size) = xs)
theorem RowAt.upd {F : Nat → Prop} {w w' : World} {v : Value} {n : Nat} {cs : List Value} (h : RowAt w v n cs) (hu : Upd F w w') (hf : ∀ k, v.ownBlock = some k → ¬ F k) (hc : cs.length ≠ 0 → n ≠ 0) : RowAt w' v n cs := by
  obtain ⟨a, c, rfl, h1, h2, h3, h4⟩ := h
  refine ⟨a, c, rfl, h1, h2, h3, fun hl => ?_⟩
  obtain ⟨g, off, rfl, h5⟩ := h4 hl
  refine ⟨g, off, rfl, fun j u hj => ?_⟩
  have hcc := h5 j u hj
  rw [World.cell?_of_block (hu.block g (block_lt_of_cell hcc) (hf g rfl))]
  exact hcc
/-- Nothing that stood is other. -/
theorem RowAt.to {w w' : World} {v : Value} {n : Nat} {cs : List Value} (h : RowAt w v n cs) (hb : ∀ k, k < w.heap.size → w'.heap[k]? = w.heap[k]?) : RowAt w' v n cs := by
  obtain ⟨a, c, rfl, h1, h2, h3, h4⟩ := h
  refine ⟨a, c, rfl, h1, h2, h3, fun hl => ?_⟩
  obtain ⟨g, off, rfl, h5⟩ := h4 hl
  refine ⟨g, off, rfl, fun j u hj => ?_⟩
  have hcc := h5 j u hj
  rw [World.cell?_of_block (hb g (block_lt_of_cell hcc))]
  exact hcc
theorem RowAt.below {w w' : World} {v : Value} {n : Nat} {cs : List Value} (h : RowAt w v n cs) (hb : Below w.heap.size w w') : RowAt w' v n cs := h.to hb.block
theorem RowAt.drew {w : World} {v : Value} {n : Nat} {cs : List Value} (h : RowAt w v n cs) : RowAt w.drew v n cs := h
theorem RowAt.alloc {w : World} {v : Value} {n : Nat} {cs : List Value} (h : RowAt w v n cs) (o : Obj) : RowAt (w.alloc o) v n cs := h.to fun k hk => Below.heap_alloc w o k hk
/-- What there was at w0, with all that is there still. -/
theorem RowAt.old {w0 w : World} {v : Value} {n : Nat} {cs : List Value} {A : HP} (h : RowAt w0 v n cs) (hh : Holds w (A * old w0)) : RowAt w v n cs := by
  obtain ⟨F, h1, rfl⟩ := hh.right
  exact h.to h1
theorem RowAt.shape {w : World} {v : Value} {n : Nat} {cs : List Value} (h : RowAt w v n cs) : ∃ a c, v = .slice a n c ∧ n ≤ c ∧ c ≤ 9223372036854775807 := by
  obtain ⟨a, c, rfl, h1, h2, _⟩ := h
  exact ⟨a, c, rfl, h1, by unfold maxLen at h2; omega⟩
/-- What a read of it wants. -/
theorem RowAt.get {w : World} {v : Value} {n : Nat} {cs : List Value} (h : RowAt w v n cs) (h0 : n ≠ 0) : ∃ g off c, v = .slice (some ⟨g, off, none⟩) n c ∧ n ≤ c ∧ c ≤ 9223372036854775807 ∧ ∀ j u, cs[j]? = some u → w.cell? ⟨g, off + j, none⟩ = some u := by
  obtain ⟨a, c, rfl, h1, h2, _, h4⟩ := h
  obtain ⟨g, off, rfl, h5⟩ := h4 h0
  exact ⟨g, off, c, rfl, h1, by unfold maxLen at h2; omega, h5⟩
theorem RowAt.bytes {w : World} {v : Value} {l : List UInt8} (h : RowAt w v l.length (bvs l)) : BytesAt w v l := by
  obtain ⟨a, c, rfl, h1, h2, h3, h4⟩ := h
  exact ⟨a, c, rfl, h1, h2, h3, fun hl => h4 (by intro e; exact hl (List.length_eq_zero_iff.1 e))⟩
theorem BytesAt.row {w : World} {v : Value} {l : List UInt8} (h : BytesAt w v l) : RowAt w v l.length (bvs l) := by
  obtain ⟨a, c, rfl, h1, h2, h3, h4⟩ := h
  exact ⟨a, c, rfl, h1, h2, h3, fun hl => h4 (by rintro rfl; exact hl rfl)⟩
theorem BytesAt.to {w w' : World} {v : Value} {l : List UInt8} (h : BytesAt w v l) (hb : ∀ k, k < w.heap.size → w'.heap[k]? = w.heap[k]?) : BytesAt w' v l := (h.row.to hb).bytes
theorem BytesAt.old {w0 w : World} {v : Value} {l : List UInt8} {A : HP} (h : BytesAt w0 v l) (hh : Holds w (A * Go.Proofs.YtfihmpkkpgmdhaaGreatDoor.old w0)) : BytesAt w v l := (h.row.old hh).bytes

theorem OwnRow.nil (w : World) (e : TypeId) (size : Nat) : OwnRow w e size (.slice none 0 0) 0 [] := ⟨by simp, (fun _ h => by cases h), .inl ⟨rfl, rfl⟩⟩
theorem OwnRow.row {w : World} {e : TypeId} {size : Nat} {v : Value} {n : Nat} {xs : List Value} (h : OwnRow w e size v n xs) : RowAt w v n xs := by
  obtain ⟨h0, ho, ⟨rfl, rfl⟩ | ⟨g, cap, cur, rfl, hb, h1, h2, h3, h4⟩⟩ := h
  · exact ⟨none, 0, rfl, Nat.le_refl _, Nat.zero_le _, fun _ => rfl, fun h => absurd rfl h⟩
  · refine ⟨_, cap, rfl, h1, h3, (fun e => by cases e), fun _ => ⟨g, 0, rfl, fun j u hu => ?_⟩⟩
    rw [Nat.zero_add]
    refine hb.cell j u ?_
    rw [← h4, List.getElem?_take] at hu
    split at hu
    · exact hu
    · cases hu
theorem OwnRow.lt {w : World} {e : TypeId} {size : Nat} {v : Value} {n : Nat} {xs : List Value} (h : OwnRow w e size v n xs) {k : Nat} (hk : v.ownBlock = some k) : k < w.heap.size := by
  obtain ⟨_, _, ⟨rfl, _⟩ | ⟨g, cap, cur, rfl, hb, _⟩⟩ := h
  · simp [Value.ownBlock] at hk
  · simp [Value.ownBlock] at hk
    subst hk
    exact hb.lt
theorem OwnRow.bytes {w : World} {v : Value} {l : List UInt8} (h : OwnRow w 5 1 v l.length (bvs l)) : OwnB w v l := by
  obtain ⟨h0, ho, ⟨rfl, h⟩ | ⟨g, cap, cur, rfl, hb, h1, h2, h3, h4⟩⟩ := h
  · exact .inl ⟨rfl, List.length_eq_zero_iff.1 h⟩
  · exact .inr ⟨g, cap, cur, rfl, hb, h1, by omega, h3, by simpa using h4⟩
theorem OwnB.row {w : World} {v : Value} {l : List UInt8} (h : OwnB w v l) : OwnRow w 5 1 v l.length (bvs l) := by
  rcases h with ⟨rfl, rfl⟩ | ⟨g, cap, cur, rfl, hb, h1, h2, h3, h4⟩
  · exact OwnRow.nil _ _ _
  · exact ⟨by simp, bvs_ones l, .inr ⟨g, cap, cur, rfl, hb, h1, by omega, h3, by simpa using h4⟩⟩
theorem OwnRow.new (w : World) (e : TypeId) (size n : Nat) (cs : List Value) (h : cs.length = n * size) (h1 : Ones cs) (hn : n ≤ 1000000) : OwnRow (w.alloc (.cells cs.toArray e)) e size (.slice (some ⟨w.heap.size, 0, none⟩) n n) n cs :=
  ⟨h, h1, .inr ⟨_, n, cs, rfl, BlockAt.new w e _, Nat.le_refl _, by omega, by unfold maxLen; omega, List.take_of_length_le (by omega)⟩⟩

/-- A slice that is owned. -/
def rw_ (e : TypeId) (size : Nat) (v : Value) (n : Nat) (xs : List Value) : HP where
  on F w := OwnRow w e size v n xs ∧ F = fun k => v.ownBlock = some k
  lt := by rintro F w ⟨h, rfl⟩ k hk; exact h.lt hk
  keep := by
    rintro F w w' ⟨h, rfl⟩ hk
    refine ⟨?_, rfl⟩
    obtain ⟨h0, ho, h | ⟨g, cap, cur, rfl, hb, hr⟩⟩ := h
    · exact ⟨h0, ho, .inl h⟩
    · exact ⟨h0, ho, .inr ⟨g, cap, cur, rfl, by unfold BlockAt at *; rw [hk g rfl]; exact hb, hr⟩⟩
theorem Holds.own {w : World} {e : TypeId} {size : Nat} {v : Value} {n : Nat} {xs : List Value} {A : HP} (h : Holds w (rw_ e size v n xs * A)) : OwnRow w e size v n xs := by
  obtain ⟨F, h, _⟩ := h.left
  exact h
theorem Holds.row {w : World} {e : TypeId} {size : Nat} {v : Value} {n : Nat} {xs : List Value} {A : HP} (h : Holds w (rw_ e size v n xs * A)) : RowAt w v n xs := h.own.row
theorem Holds.nilRow {w : World} {A : HP} (h : Holds w A) (e : TypeId) (size : Nat) : Holds w (rw_ e size (.slice none 0 0) 0 [] * A) :=
  h.new (fun _ _ => rfl) ⟨OwnRow.nil _ _ _, rfl⟩ (by intro k hk; simp [Value.ownBlock] at hk)
theorem Holds.allocRow {w : World} {A : HP} (h : Holds w A) (e : TypeId) (size n : Nat) (cs : List Value) (hl : cs.length = n * size) (h1 : Ones cs) (hn : n ≤ 1000000) : Holds (w.alloc (.cells cs.toArray e)) (rw_ e size (.slice (some ⟨w.heap.size, 0, none⟩) n n) n cs * A) :=
  h.new (fun k hk => Below.heap_alloc w _ k hk) ⟨OwnRow.new w e size n cs hl h1 hn, rfl⟩ (by intro k hk; simp [Value.ownBlock] at hk; omega)
theorem ownb_row (v : Value) (l : List UInt8) : ownb v l = rw_ 5 1 v l.length (bvs l) := HP.ext' fun F w => ⟨fun ⟨h, e⟩ => ⟨h.row, e⟩, fun ⟨h, e⟩ => ⟨h.bytes, e⟩⟩

/-- A box that has just been made, at the number that the walk writes. -/
theorem RowAt.box {w : World} {e : TypeId} {n : Nat} {cs : List Value} (hn : n ≤ 1000000) {g : Nat} (hg : w.heap.size = g) : RowAt (w.alloc (.cells cs.toArray e)) (.slice (some ⟨g, 0, none⟩) n n) n cs := by
  subst hg
  exact ⟨_, n, rfl, Nat.le_refl _, by unfold maxLen; omega, (fun e => by cases e), fun _ => ⟨_, _, rfl, fun j u hu => by rw [Nat.zero_add]; exact (BlockAt.new w e cs).cell j u hu⟩⟩
theorem Holds.boxB {w : World} {A : HP} (h : Holds w A) {ty : TypeId} {cs : List Value} {g : Nat} (hg : w.heap.size = g) : Holds (w.alloc (.cells cs.toArray ty)) (Go.Proofs.YtfihmpkkpgmdhaaGreatDoor.bl g ty cs * A) := by
  subst hg
  exact h.allocB ty cs
theorem Holds.boxRow {w : World} {A : HP} (h : Holds w A) {e : TypeId} (size : Nat) {n : Nat} {cs : List Value} (hl : cs.length = n * size) (h1 : Ones cs) (hn : n ≤ 1000000) {g : Nat} (hg : w.heap.size = g) : Holds (w.alloc (.cells cs.toArray e)) (rw_ e size (.slice (some ⟨g, 0, none⟩) n n) n cs * A) := by
  subst hg
  exact h.allocRow e size n cs hl h1 hn
section
variable {P : Program}
theorem run_append_row {w : World} (t ty e : TypeId) (i : TypeInfo) (z : Value) (size bytes : Nat) (ht : P.underlying t = some (.slice e)) (hi : P.info? e = some i) (hz : i.zero = some z) (hsz : i.size = size) (hby : i.bytes = bytes) (hzs : z.cells.size = size) (hs0 : 0 < size)
    {v y : Value} {n m : Nat} {xs ys : List Value} (hv : OwnRow w e size v n xs) (hy : RowAt w y m ys) (hyl : ys.length = m * size) (hy1 : Ones ys) (hlen : (n + m) * bytes ≤ 140737488355328) (hnm : n + m ≤ 140737488355328) :
    ∃ v' w', (Builtin.append_ #[t, t] ty #[v, y]).run P w = .ok v' w' ∧ OwnRow w' e size v' (n + m) (xs ++ ys) ∧ Upd (fun k => v.ownBlock = some k) w w' ∧ (∀ k, v'.ownBlock = some k → v.ownBlock = some k ∨ w.heap.size ≤ k) := by
  subst hsz
  subst hby
  have hml : maxLen = 9223372036854775807 := rfl
  obtain ⟨ya, yc, rfl, y1, y2, y3, y4⟩ := hy
  obtain ⟨hxl, hx1, hv⟩ := hv
  by_cases hm : m = 0
  · subst hm
    have hye : ys = [] := List.length_eq_zero_iff.1 (by simpa using hyl)
    subst hye
    refine ⟨v, w, ?_, by rw [Nat.add_zero, List.append_nil]; exact ⟨hxl, hx1, hv⟩, Upd.refl _ _, fun k hk => .inl hk⟩
    rcases hv with ⟨rfl, rfl⟩ | ⟨g, cap, cur, rfl, hb, h1, h2, h3, h4⟩
    · cases ya <;> simp [Builtin.append_, run_underlying ht, sizeOf, typeInfo, hi, Builtin.lenOf, Builtin.firstCells, loadCells, loadCellsFrom]
    · cases ya <;> simp [Builtin.append_, run_underlying ht, sizeOf, typeInfo, hi, Builtin.lenOf, Builtin.firstCells, loadCells, loadCellsFrom, h1, storeCells]
  · obtain ⟨yg, yo, rfl, y5⟩ := y4 hm
    have hnews : ∀ j u, ys[j]? = some u → w.cell? ((⟨yg, yo, none⟩ : Addr).add j) = some u := fun j u hj => by
      rw [Addr.add_lit]; exact y5 j u hj
    have hm0 : 0 < m := Nat.pos_of_ne_zero hm
    have hones : Ones (xs ++ ys) := fun u hu => (List.mem_append.1 hu).elim (hx1 u) (hy1 u)
    have hsum : (xs ++ ys).length = (n + m) * i.size := by rw [List.length_append, hxl, hyl, Nat.add_mul]
    have grown : ∀ old, old < n + m →
        OwnRow (w.drew.alloc (.cells (xs.toArray ++ ys.toArray ++ Builtin.zeroCells (Value.cells z) (grownCap w (n + m) old e - (n + m))) e)) e i.size
          (.slice (some ⟨w.heap.size, 0, none⟩) (n + m) (grownCap w (n + m) old e)) (n + m) (xs ++ ys) := fun old _ => by
      have hge := grownCap_ge w (n + m) old e
      have hcm := grownCap_le_maxLen w (n + m) old e (by omega)
      refine ⟨hsum, hones, .inr ⟨w.heap.size, _, xs ++ ys ++ (Builtin.zeroCells (Value.cells z) (grownCap w (n + m) old e - (n + m))).toList, rfl, ?_, by simpa using hge, ?_, hcm, ?_⟩⟩
      · exact laid_three w.drew e _ _ _
      · rw [List.length_append, hsum, Array.length_toList, size_zeroCells, hzs, ← Nat.add_mul]
        exact Nat.mul_le_mul_right _ (by omega)
      · rw [List.take_append_of_le_length (by omega)]
        exact List.take_of_length_le (by omega)
    rcases hv with ⟨rfl, rfl⟩ | ⟨g, cap, cur, rfl, hb, h1, h2, h3, h4⟩
    · have hxe : xs = [] := List.length_eq_zero_iff.1 (by simpa using hxl)
      subst hxe
      have hr := run_append_nil (P := P) w t ty e i z ht hi hz ⟨yg, yo, none⟩ m yc ys (by omega) hnews hm0 (by omega) (by rw [Nat.zero_add] at hlen; omega)
      have hg := grown 0 (by omega)
      simp only [Nat.zero_add, List.nil_append] at hg hr ⊢
      refine ⟨_, _, hr, by simpa using hg, ?_, fun k hk => .inr ?_⟩
      · exact (Upd.drew (Upd.refl _ w)).alloc _
      · simp [Value.ownBlock] at hk; omega
    · by_cases hroom : n + m ≤ cap
      · have hcs : (n + m) * i.size ≤ cur.length := Nat.le_trans (Nat.mul_le_mul_right _ hroom) h2
        have hr := run_append_room (P := P) w t ty e i ht hi g n cap cur.toArray hb ⟨yg, yo, none⟩ m yc ys (by omega) hnews hy1 hroom (by rw [List.size_toArray, hyl, ← Nat.add_mul]; exact hcs)
        refine ⟨_, _, hr, ⟨hsum, hones, .inr ⟨g, cap, (xs ++ ys ++ cur.drop ((n + m) * i.size)), rfl, ?_, hroom, ?_, h3, ?_⟩⟩, ?_, fun k hk => .inl hk⟩
        · have := hb.setRow (cur.take (n * i.size) ++ ys ++ cur.drop ((n + m) * i.size))
          rw [h4] at this
          have he : n * i.size + m * i.size = (n + m) * i.size := (Nat.add_mul _ _ _).symm
          simpa [h4, hyl, he] using this
        · rw [List.length_append, hsum, List.length_drop]; omega
        · rw [List.take_append_of_le_length (by omega)]
          exact List.take_of_length_le (by omega)
        · exact (Upd.of_grown (grown_setRow (grown_refl w _) _)).mono fun k hk => hk
      · have holds : ∀ j u, xs[j]? = some u → w.cell? ((⟨g, 0, none⟩ : Addr).add j) = some u := fun j u hu => by
          rw [Addr.add_lit, Nat.zero_add]
          refine hb.cell j u ?_
          rw [← h4, List.getElem?_take] at hu
          split at hu
          · exact hu
          · cases hu
        have hr := run_append_grow (P := P) w t ty e i z ht hi hz ⟨g, 0, none⟩ n cap xs (by omega) holds ⟨yg, yo, none⟩ m yc ys (by omega) hnews (by omega) (by omega) (growslice_fits (by omega) (by omega))
        refine ⟨_, _, hr, grown cap (by omega), ?_, fun k hk => .inr ?_⟩
        · exact (Upd.drew (Upd.refl _ w)).alloc _
        · simp [Value.ownBlock] at hk; omega
/-- append to what is owned. -/
theorem wpList_append_sl {w : World} {ops : Array Oper} {rest : List Oper} {o : Oper} {a : Act} {Q : Exit → Act → World → Prop} (hgd : o.guard = none) (s x : Operand) (t : TypeId)
    (ho : o.op = .call { callee := .builtin .append, args := #[s, x], argTypes := #[t, t] })
    (e : TypeId) (i : TypeInfo) (z : Value) (size bytes : Nat) (ht : P.underlying t = some (.slice e)) (hi : P.info? e = some i) (hz : i.zero = some z) (hsz : i.size = size) (hby : i.bytes = bytes) (hzs : z.cells.size = size) (hs0 : 0 < size)
    {v y : Value} {n m : Nat} {xs ys : List Value} {R : HP} (hs : a.eval s = v) (hx : a.eval x = y) (hv : Holds w (rw_ e size v n xs * R)) (hy : RowAt w y m ys) (hyl : ys.length = m * size) (hy1 : Ones ys) (hlen : (n + m) * bytes ≤ 140737488355328) (hnm : n + m ≤ 140737488355328)
    (h : ∀ v' w', Holds w' (rw_ e size v' (n + m) (xs ++ ys) * R) → Quiet w w' → wpList P ops Q rest (a.put o.dst v') w') : wpList P ops Q (o :: rest) a w :=
  wpList_plain hgd fun _ hK => by
    obtain ⟨F, ⟨hown, rfl⟩, hn⟩ := hv.open
    obtain ⟨v', w', hr, h2, h3, h4⟩ := run_append_row (P := P) t o.type e i z size bytes ht hi hz hsz hby hzs hs0 hown hy hyl hy1 hlen hnm
    unfold Oper.wp execOp
    simp only [ho, resolve, invoke, builtin, Sem.run_bind, Sem.run_pure, Result.andThen_ok, List.map_toArray, List.map_cons, List.map_nil, hs, hx, hr]
    exact hK _ _ (h v' w' (hn w' _ _ ⟨h2, rfl⟩ h3 h4) (Quiet.upd h3))
end
end Go.Proofs.YtfihmpkkpgmdhaaGreatDoor
