/-
  As Lex; behind one loud operation (sw) another thing is asked of memory, which may be chosen there, if all of the text behind it is behind it in every order, and all ahead of it ahead.
-/
import Derived.Test.YtfihmpkkpgmdhacLex
namespace Go.Proofs.Ytfihmpkkpgmdhac
open Go
section
variable {P : Program} {ops : Array Oper} {S : World → Prop} {sw : Nat} {path : List Nat} {Q : Exit → Act → World → Prop}
def LexW (P : Program) (ops : Array Oper) (S : World → Prop) (sw : Nat) (path : List Nat) (Q : Exit → Act → World → Prop) : List Nat → Act → World → Prop
  | [], _, _ => False
  | i :: rest, a, w => ∃ o, ops[i]? = some o ∧
      ((i < sw ∧ ∃ v, Yl P ops S o a v ∧ LexW P ops S sw path Q rest (a.put o.dst v) w) ∨
       (i < sw ∧ Region.wanted o (yielded ops a.tmps) = true ∧ i ∈ path ∧ Loud P o a w fun v w' => S w' ∧ LexW P ops S sw path Q rest (a.put o.dst v) w') ∨
       (i = sw ∧ Region.wanted o (yielded ops a.tmps) = true ∧ Loud P o a w fun v w' => ∃ S2 : World → Prop, S2 w' ∧ Lex P ops S2 path Q rest (a.put o.dst v) w'))

theorem LexW.pull {i : Nat} {oi : Oper} {post : List Nat} (hi : ops[i]? = some oi) (hq : i ∉ path) (hb : i < sw) (hsel : ∀ (j : Nat) (o : Oper) cs b, ops[j]? = some o → o.op ≠ .select cs b) :
    ∀ (pre : List Nat) (a : Act) (w : World), S w → (∀ p ∈ pre, ∀ o, ops[p]? = some o → o.apart ops oi = true) → (∀ p ∈ pre, p < sw) → LexW P ops S sw path Q (pre ++ i :: post) a w →
      ∃ v, Yl P ops S oi a v ∧ LexW P ops S sw path Q (pre ++ post) (a.put oi.dst v) w
  | [], a, w, _, _, _, h => by
    obtain ⟨o, ho, h⟩ := h
    rw [hi] at ho
    obtain rfl := Option.some.inj ho
    rcases h with ⟨_, h⟩ | ⟨_, _, hp, _⟩ | ⟨e, _⟩
    · exact h
    · exact absurd hp hq
    · omega
  | p :: pre, a, w, hS, hap, hph, h => by
    obtain ⟨op, hop, h⟩ := h
    obtain ⟨h1, h2, h3⟩ := Oper.apart_spec (hap p (by simp) op hop)
    have hp1 := hph p (by simp)
    have toA : ∀ u v, Yl P ops S oi (a.put op.dst u) v → Yl P ops S oi a v := fun u v hy =>
      hy.same (execOp_put (ops := ops) oi (fun cs b => hsel i oi cs b hi) a op.dst u h1).symm (wanted_put oi a op.dst u h1).symm
    rcases h with ⟨hne, u, hu, h⟩ | ⟨hne, hw, hp, h⟩ | ⟨e, _⟩
    · obtain ⟨v, hv, hl⟩ := LexW.pull hi hq hb hsel pre _ w hS (fun q hq' => hap q (by simp [hq'])) (fun q hq' => hph q (by simp [hq'])) h
      refine ⟨v, toA u v hv, op, hop, .inl ⟨hne, u, hu.same (execOp_put (ops := ops) op (fun cs b => hsel p op cs b hop) a oi.dst v h3) (wanted_put op a oi.dst v h3), ?_⟩⟩
      rw [← Act.put_comm a u v h2]
      exact hl
    · obtain ⟨u, w1, hS1, hl1⟩ := h.some
      obtain ⟨v, hv, _⟩ := LexW.pull hi hq hb hsel pre _ w1 hS1 (fun q hq' => hap q (by simp [hq'])) (fun q hq' => hph q (by simp [hq'])) hl1
      refine ⟨v, toA u v hv, op, hop, .inr (.inl ⟨hne, by rw [wanted_put op a oi.dst v h3]; exact hw, hp, ?_⟩)⟩
      unfold Loud at h ⊢
      rw [execOp_put (ops := ops) op (fun cs b => hsel p op cs b hop) a oi.dst v h3]
      refine Loud.mono (o := op) (a := a) (w := w) h fun u' w' ⟨hS', hl'⟩ => ⟨hS', ?_⟩
      obtain ⟨v', hv', hl''⟩ := LexW.pull hi hq hb hsel pre _ w' hS' (fun q hq' => hap q (by simp [hq'])) (fun q hq' => hph q (by simp [hq'])) hl'
      obtain rfl := Yl.unique hS' (toA u' v' hv') (toA u v hv)
      rw [← Act.put_comm a u' v' h2]
      exact hl''
    · omega
theorem LexW.pullL {i : Nat} {oi : Oper} {post : List Nat} (hi : ops[i]? = some oi) (hb : i < sw) (hsel : ∀ (j : Nat) (o : Oper) cs b, ops[j]? = some o → o.op ≠ .select cs b) :
    ∀ (pre : List Nat) (a : Act) (w : World), (∀ p ∈ pre, ∀ o, ops[p]? = some o → o.apart ops oi = true) → (∀ p ∈ pre, p ∉ path ∧ p < sw) → LexW P ops S sw path Q (pre ++ i :: post) a w →
      (∃ v, Yl P ops S oi a v ∧ LexW P ops S sw path Q (pre ++ post) (a.put oi.dst v) w) ∨
      (Region.wanted oi (yielded ops a.tmps) = true ∧ Loud P oi a w fun v w' => S w' ∧ LexW P ops S sw path Q (pre ++ post) (a.put oi.dst v) w')
  | [], a, w, _, _, h => by
    obtain ⟨o, ho, h⟩ := h
    rw [hi] at ho
    obtain rfl := Option.some.inj ho
    rcases h with ⟨_, h⟩ | ⟨_, hw, _, h⟩ | ⟨e, _⟩
    · exact .inl h
    · exact .inr ⟨hw, h⟩
    · omega
  | p :: pre, a, w, hap, hno, h => by
    obtain ⟨op, hop, h⟩ := h
    obtain ⟨h1, h2, h3⟩ := Oper.apart_spec (hap p (by simp) op hop)
    have hp1 := hno p (by simp)
    rcases h with ⟨hne, u, hu, h⟩ | ⟨_, _, hp, _⟩ | ⟨e, _⟩
    case inr.inl => exact absurd hp hp1.1
    case inr.inr => exact absurd e (by omega)
    have he := execOp_put (ops := ops) oi (fun cs b => hsel i oi cs b hi) a op.dst u h1
    have hwp := wanted_put (ops := ops) oi a op.dst u h1
    have hu' : ∀ v, Yl P ops S op (a.put oi.dst v) u := fun v => hu.same (execOp_put (ops := ops) op (fun cs b => hsel p op cs b hop) a oi.dst v h3) (wanted_put op a oi.dst v h3)
    rcases LexW.pullL hi hb hsel pre _ w (fun q hq' => hap q (by simp [hq'])) (fun q hq' => hno q (by simp [hq'])) h with ⟨v, hv, hl⟩ | ⟨hw, hl⟩
    · refine .inl ⟨v, hv.same he.symm hwp.symm, op, hop, .inl ⟨hne, u, hu' v, ?_⟩⟩
      rw [← Act.put_comm a u v h2]
      exact hl
    · refine .inr ⟨by rw [← hwp]; exact hw, ?_⟩
      unfold Loud at hl ⊢
      rw [he] at hl
      refine Loud.mono (o := oi) (a := a) (w := w) hl fun v w' ⟨hS', hl'⟩ => ⟨hS', op, hop, .inl ⟨hne, u, hu' v, ?_⟩⟩
      rw [← Act.put_comm a u v h2]
      exact hl'

/-- What is asked of the switch: all behind it is behind it, all ahead ahead. -/
def swOkW (ops : Array Oper) (path : List Nat) (sw : Nat) : Bool := path.contains sw && decide (sw < ops.size) && (List.range ops.size).all fun j =>
  (!decide (sw < j) || (List.range j).any fun z => decide (sw ≤ z) && hasEdge ops j z) && (!decide (j < sw) || (List.range (sw + 1)).any fun z => decide (j < z) && hasEdge ops z j)

theorem sw_ahead {listed : Array Bool} (hok : swOkW ops path sw = true) (hc : Closed ops listed) :
    ∀ (j : Nat), j < ops.size → sw < j → (∀ o, ops[j]? = some o → ∀ e ∈ o.after, Region.binds .any e = true → listed.getD e.on false = true) → listed.getD sw false = true := by
  intro j
  induction j using Nat.strongRecOn with
  | _ j ih =>
    intro hj hsj hr
    simp only [swOkW, Bool.and_eq_true] at hok
    have h := (List.all_eq_true.1 hok.2 j (List.mem_range.2 hj))
    simp only [Bool.and_eq_true] at h
    have h := h.1
    simp only [hsj, decide_true, Bool.not_true, Bool.false_or, List.any_eq_true, Bool.and_eq_true, decide_eq_true_eq, List.mem_range] at h
    obtain ⟨z, hzj, hsz, he⟩ := h
    obtain ⟨o, ho, e, hem, heb, rfl⟩ := hasEdge_iff.1 he
    have hl := hr o ho e hem heb
    by_cases hz : e.on = sw
    · rw [← hz]; exact hl
    · exact ih e.on hzj (by omega) (by omega) (fun o' ho' => hc e.on o' ho' hl)

theorem sw_behind {listed : Array Bool} (hok : swOkW ops path sw = true) (hc : Closed ops listed) (hs : ∀ o, ops[sw]? = some o → ∀ e ∈ o.after, Region.binds .any e = true → listed.getD e.on false = true) : ∀ (n j : Nat), sw - j = n → j < sw → listed.getD j false = true := by
  intro n
  induction n using Nat.strongRecOn with
  | _ n ih =>
    intro j hn hj
    simp only [swOkW, Bool.and_eq_true, decide_eq_true_eq] at hok
    have h := (List.all_eq_true.1 hok.2 j (List.mem_range.2 (by omega)))
    simp only [Bool.and_eq_true] at h
    have h := h.2
    simp only [hj, decide_true, Bool.not_true, Bool.false_or, List.any_eq_true, Bool.and_eq_true, decide_eq_true_eq, List.mem_range] at h
    obtain ⟨z, hz, hjz, he⟩ := h
    obtain ⟨o, ho, e, hem, heb, rfl⟩ := hasEdge_iff.1 he
    by_cases hzs : z = sw
    · subst hzs
      exact hs o ho e hem heb
    · exact hc z o ho (ih (sw - z) (by omega) z rfl (by omega)) e hem heb

theorem wpAny_of_lexW (hok : lexOk ops path = true) (hsw : swOkW ops path sw = true) : ∀ (n : Nat) (rem : List Nat) (listed : Array Bool) (a : Act) (w : World), rem.length = n → rem.Pairwise (· < ·) → listed.size = ops.size →
    (∀ k, k ∈ rem ↔ k < ops.size ∧ listed.getD k true = false) → Closed ops listed → listed.getD sw false = false → S w → LexW P ops S sw path Q rem a w → wpAny P .any ops Q n listed a w := by
  have hok' := hok
  simp only [lexOk, Bool.and_eq_true] at hok'
  obtain ⟨⟨hns, hall⟩, hpath⟩ := hok'
  have hsel := fun (j : Nat) (o : Oper) cs b => Region.noSelect_spec hns j o cs b
  have hswp : sw ∈ path ∧ sw < ops.size := by
    simp only [swOkW, Bool.and_eq_true, decide_eq_true_eq] at hsw
    exact ⟨by simpa using hsw.1.1, hsw.1.2⟩
  intro n
  induction n with
  | zero =>
    intro rem listed a w hn _ _ hrem _ _ _ h
    obtain rfl := List.eq_nil_of_length_eq_zero hn
    exact h.elim
  | succ n ih =>
    intro rem listed a w hn hpw hsz hrem hcl hs0 hS h
    have hedge : ∀ j oj, ops[j]? = some oj → (∀ e ∈ oj.after, Region.binds .any e = true → e.on < j) ∧ ∀ i, i < j → hasEdge ops j i = true ∨ ∀ oi, ops[i]? = some oi → oi.apart ops oj = true := by
      intro j oj hj
      have h1 := List.all_eq_true.1 hall j (List.mem_range.2 (Array.getElem?_eq_some_iff.1 hj).1)
      simp only [hj, Bool.and_eq_true] at h1
      refine ⟨fun e he hb => ?_, fun i hij => ?_⟩
      · have := Array.all_eq_true_iff_forall_mem.1 h1.1 e he
        simpa [hb] using this
      · have := List.all_eq_true.1 h1.2 i (List.mem_range.2 hij)
        simp only [Bool.or_eq_true] at this
        refine this.imp id fun h2 oi hoi => ?_
        simpa [hoi] using h2
    refine ⟨fun hr0 => ?_, fun i hi => ?_⟩
    · exfalso
      match rem, hn, hpw, hrem with
      | m :: rest, _, hpw, hrem =>
        have hm := (hrem m).1 (by simp)
        obtain ⟨om, hom⟩ : ∃ o, ops[m]? = some o := ⟨_, Array.getElem?_eq_getElem hm.1⟩
        have : m ∈ Region.ready .any ops listed := mem_ready.2 ⟨hm.2, om, hom, fun e he hb => by
          have hlt := (hedge m om hom).1 e he hb
          have hno : e.on ∉ m :: rest := by
            intro hmem
            rcases List.mem_cons.1 hmem with h1 | h1
            · omega
            · have := (List.pairwise_cons.1 hpw).1 _ h1; omega
          have hlt2 : e.on < listed.size := by omega
          have hg : ¬ listed.getD e.on true = false := fun hf => hno ((hrem e.on).2 ⟨by omega, hf⟩)
          simp [hlt2] at hg ⊢
          exact hg⟩
        rw [hr0] at this
        cases this
    · obtain ⟨h0, oi, hoi, hall'⟩ := mem_ready.1 hi
      have hilt := (Array.getElem?_eq_some_iff.1 hoi).1
      have him := (hrem i).2 ⟨hilt, h0⟩
      have hi0 : listed.getD i false = false := by
        have hlt2 : i < listed.size := by omega
        simpa [hlt2] using h0
      obtain ⟨pre, post, rfl⟩ := List.append_of_mem him
      have hpre : ∀ p ∈ pre, p < i := fun p hp => (List.pairwise_append.1 hpw).2.2 p hp i (by simp)
      have hun : ∀ p ∈ pre, listed.getD p false = false := fun p hp => by
        have := (hrem p).1 (by simp [hp])
        have hlt2 : p < listed.size := by omega
        simpa [hlt2] using this.2
      have hle : i ≤ sw := by
        by_cases h1 : sw < i
        · have := sw_ahead hsw hcl i hilt h1 (fun o ho => by
            rw [hoi] at ho
            obtain rfl := Option.some.inj ho
            exact hall')
          rw [hs0] at this
          cases this
        · omega
      have hap : ∀ p ∈ pre, ∀ o, ops[p]? = some o → o.apart ops oi = true := fun p hp o ho => by
        rcases (hedge i oi hoi).2 p (hpre p hp) with h1 | h1
        · obtain ⟨o', ho', e, he, hb, heq⟩ := hasEdge_iff.1 h1
          rw [hoi] at ho'
          obtain rfl := Option.some.inj ho'
          have := hall' e he hb
          rw [heq, hun p hp] at this
          cases this
        · exact h1 o ho
      have hne : ∀ k, k ∈ pre ++ post → k ≠ i := fun k hk hki => by
        subst hki
        rcases List.mem_append.1 hk with h1 | h1
        · exact Nat.lt_irrefl _ (hpre _ h1)
        · have := (List.pairwise_cons.1 (List.pairwise_append.1 hpw).2.1).1 _ h1; omega
      have hpw' : (pre ++ post).Pairwise (· < ·) := by
        refine List.Pairwise.sublist ?_ hpw
        exact List.Sublist.append (List.Sublist.refl _) (List.sublist_cons_self _ _)
      have hrem' : ∀ k, k ∈ pre ++ post ↔ k < ops.size ∧ (listed.setIfInBounds i true).getD k true = false := fun k => by
        by_cases hk : k = i
        · subst hk
          constructor
          · intro hm; exact absurd rfl (hne _ hm)
          · intro hm
            have hlt2 : k < listed.size := by omega
            simp [hlt2] at hm
        · rw [getD_set_ne true (Ne.symm hk), ← hrem k]
          simp [hk]
      have hcl' : Closed ops (listed.setIfInBounds i true) := by
        intro j o ho hj e he hb
        refine getD_set_true ?_
        by_cases hji : i = j
        · subst hji
          rw [hoi] at ho
          obtain rfl := Option.some.inj ho
          exact hall' e he hb
        · rw [getD_set_ne false hji] at hj
          exact hcl j o ho hj e he hb
      have hlen' : (pre ++ post).length = n := by simp at hn ⊢; omega
      by_cases hisw : i = sw
      · have hpre0 : pre = [] := by
          cases hpe : pre with
          | nil => rfl
          | cons p ps =>
            have hp : p ∈ pre := by rw [hpe]; simp
            have := sw_behind hsw hcl (fun o ho => by
              rw [← hisw, hoi] at ho
              obtain rfl := Option.some.inj ho
              exact hall') _ p rfl (by have := hpre p hp; omega)
            rw [hun p hp] at this
            cases this
        subst hpre0
        obtain ⟨o, ho, h⟩ := h
        rw [hoi] at ho
        obtain rfl := Option.some.inj ho
        rcases h with ⟨e, _⟩ | ⟨e, _⟩ | ⟨_, hw, h⟩
        · omega
        · omega
        · unfold wpOp
          simp only [hoi, hw, if_true]
          refine .inl (h.wp fun v w' ⟨S2, hS2, hl'⟩ => ?_)
          exact wpAny_of_lex (S := S2) hok n post _ _ w' hlen' hpw' (by simpa using hsz) hrem' hcl' hS2 hl'
      have hlt : i < sw := by omega
      have hafter : (listed.setIfInBounds i true).getD sw false = false := by rw [getD_set_ne false hisw]; exact hs0
      have next : ∀ a' w', S w' → LexW P ops S sw path Q (pre ++ post) a' w' → wpAny P .any ops Q n (listed.setIfInBounds i true) a' w' := fun a' w' hS' hl =>
        ih (pre ++ post) _ a' w' hlen' hpw' (by simpa using hsz) hrem' hcl' hafter hS' hl
      have fin : ∀ v, Yl P ops S oi a v → LexW P ops S sw path Q (pre ++ post) (a.put oi.dst v) w → wpOp P ops Q i (wpAny P .any ops Q n (listed.setIfInBounds i true)) a w := fun v hv hl => by
        unfold wpOp
        simp only [hoi]
        rcases hv with ⟨hw, rfl⟩ | ⟨hw, hv⟩
        · simp only [hw, Bool.false_eq_true, if_false]
          exact next _ _ hS hl
        · simp only [hw, if_true]
          refine .inl ?_
          unfold Oper.wp
          rw [hv w hS]
          exact next _ _ hS hl
      by_cases hip : i ∈ path
      · have hnp0 : ∀ p ∈ pre, p ∉ path := fun p hp hpp => by
          have := path_listed hpath hcl i hip (fun o ho => by
            rw [hoi] at ho
            obtain rfl := Option.some.inj ho
            exact hall') p hpp (hpre p hp)
          rw [hun p hp] at this
          cases this
        have hnp : ∀ p ∈ pre, p ∉ path ∧ p < sw := fun p hp => ⟨hnp0 p hp, Nat.lt_trans (hpre p hp) hlt⟩
        rcases LexW.pullL hoi hlt hsel pre a w hap hnp h with ⟨v, hv, hl⟩ | ⟨hw, hl⟩
        · exact fin v hv hl
        · unfold wpOp
          simp only [hoi, hw, if_true]
          exact .inl (hl.wp fun v w' ⟨hS', hl'⟩ => next _ _ hS' hl')
      · obtain ⟨v, hv, hl⟩ := LexW.pull hoi hip hlt hsel pre a w hS hap (fun p hp => by have := hpre p hp; omega) h
        exact fin v hv hl

theorem wp_region_textW {id : Nat} {a : Act} {w : World} (S : World → Prop) (sw : Nat) (path : List Nat) (rem : List Nat) (hm : P.follows .mixedOrders = true) (hok : lexOk ops path = true) (hsw : swOkW ops path sw = true) (hr : List.range ops.size = rem) (hS : S w.drew)
    (h : LexW P ops S sw path Q rem a w.drew) : (Code.region id ops true).wp P Q a w := by
  refine wp_region_any hm ?_
  subst hr
  refine wpAny_of_lexW (S := S) hok hsw ops.size (List.range ops.size) _ a _ (by simp) List.pairwise_lt_range (by simp) (fun k => ?_) ?_ ?_ hS h
  · by_cases hk : k < ops.size <;> simp [hk]
  · intro j o _ hj
    by_cases hlt : j < ops.size <;> simp [hlt] at hj
  · by_cases hlt : sw < ops.size <;> simp [hlt]

/-- The same, over the operations themselves. -/
def LexWL (P : Program) (ops : Array Oper) (S : World → Prop) (sw : Nat) (path : List Nat) (Q : Exit → Act → World → Prop) : Nat → List Oper → Act → World → Prop
  | _, [], _, _ => False
  | i, o :: rest, a, w =>
      (i < sw ∧ ∃ v, Yl P ops S o a v ∧ LexWL P ops S sw path Q (i + 1) rest (a.put o.dst v) w) ∨
      (i < sw ∧ Region.wanted o (yielded ops a.tmps) = true ∧ i ∈ path ∧ Loud P o a w fun v w' => S w' ∧ LexWL P ops S sw path Q (i + 1) rest (a.put o.dst v) w') ∨
      (i = sw ∧ Region.wanted o (yielded ops a.tmps) = true ∧ Loud P o a w fun v w' => ∃ S2 : World → Prop, S2 w' ∧ LexL P ops S2 path Q (i + 1) rest (a.put o.dst v) w')
theorem LexW.of_list : ∀ (l : List Oper) (i : Nat) (a : Act) (w : World), (∀ k o, l[k]? = some o → ops[i + k]? = some o) → LexWL P ops S sw path Q i l a w → LexW P ops S sw path Q (List.range' i l.length) a w
  | [], _, _, _, _, h => h
  | o :: l, i, a, w, hl, h => by
    have hl' : ∀ k o, l[k]? = some o → ops[i + 1 + k]? = some o := fun k o hk => by
      have := hl (k + 1) o hk
      rwa [show i + (k + 1) = i + 1 + k by omega] at this
    refine ⟨o, hl 0 o rfl, ?_⟩
    rcases h with ⟨hne, v, hv, h⟩ | ⟨hne, hw, hp, h⟩ | ⟨hne, hw, h⟩
    · exact .inl ⟨hne, v, hv, LexW.of_list l (i + 1) _ _ hl' h⟩
    · exact .inr (.inl ⟨hne, hw, hp, h.mono fun v w' ⟨h1, h2⟩ => ⟨h1, LexW.of_list l (i + 1) _ _ hl' h2⟩⟩)
    · exact .inr (.inr ⟨hne, hw, h.mono fun v w' ⟨S2, h1, h2⟩ => ⟨S2, h1, Lex.of_list l (i + 1) _ _ hl' h2⟩⟩)
theorem wp_region_lexW {l : List Oper} {id : Nat} {a : Act} {w : World} (S : World → Prop) (sw : Nat) (path : List Nat) (hm : P.follows .mixedOrders = true) (hok : lexOk l.toArray path = true) (hsw : swOkW l.toArray path sw = true) (hS : S w.drew)
    (h : LexWL P l.toArray S sw path Q 0 l a w.drew) : (Code.region id l.toArray true).wp P Q a w := by
  refine wp_region_textW S sw path _ hm hok hsw rfl hS ?_
  have h1 := LexW.of_list (ops := l.toArray) l 0 a w.drew (fun k o hk => by simpa using hk) h
  simpa [List.range_eq_range'] using h1

variable {o : Oper} {i : Nat} {rest : List Oper} {a : Act} {w : World}
theorem LexWL.still {v : Value} (hi : i < sw) (hw : Region.wanted o (yielded ops a.tmps) = true) (hv : ∀ w, S w → (execOp a.eval o).run P w = .ok (.value v) w)
    (h : LexWL P ops S sw path Q (i + 1) rest (a.put o.dst v) w) : LexWL P ops S sw path Q i (o :: rest) a w := .inl ⟨hi, v, .inr ⟨hw, hv⟩, h⟩
theorem LexWL.none (hi : i < sw) (hw : Region.wanted o (yielded ops a.tmps) = false)
    (h : LexWL P ops S sw path Q (i + 1) rest (a.put o.dst undef) w) : LexWL P ops S sw path Q i (o :: rest) a w := .inl ⟨hi, undef, .inl ⟨hw, rfl⟩, h⟩
/-- A call ahead of the switch. -/
theorem LexWL.call {w1 : World} {f : FuncId} {args : Array Value} (hs : i < sw) (hw : Region.wanted o (yielded ops a.tmps) = true) (hi : i ∈ path) (he : (execOp a.eval o).run P w = .ok (.enter f args) w1)
    (h : Calls P f args w1 fun e w' => ∃ v, e = .returned v ∧ S w' ∧ LexWL P ops S sw path Q (i + 1) rest (a.put o.dst v) w') : LexWL P ops S sw path Q i (o :: rest) a w :=
  .inr (.inl ⟨hs, hw, hi, by unfold Loud; rw [he]; exact h⟩)
/-- The switch, a call: behind it another thing is asked of memory. -/
theorem LexWL.switch {w1 : World} {f : FuncId} {args : Array Value} (hs : i = sw) (hw : Region.wanted o (yielded ops a.tmps) = true) (he : (execOp a.eval o).run P w = .ok (.enter f args) w1)
    (h : Calls P f args w1 fun e w' => ∃ v, e = .returned v ∧ ∃ S2 : World → Prop, S2 w' ∧ LexL P ops S2 path Q (i + 1) rest (a.put o.dst v) w') : LexWL P ops S sw path Q i (o :: rest) a w :=
  .inr (.inr ⟨hs, hw, by unfold Loud; rw [he]; exact h⟩)
end
end Go.Proofs.Ytfihmpkkpgmdhac
