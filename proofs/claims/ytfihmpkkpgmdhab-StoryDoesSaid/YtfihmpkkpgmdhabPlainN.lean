/-
  Plain definitions and laws, no program in sight.
-/
import Derived.Test.YtfihmpkkpgmdhabPlainM
/-
  Plain law of GuildTries: what was answered to those that took jobs, torn orders between.
-/
namespace Go.Proofs.Ytfihmpkkpgmdhab
set_option linter.unusedVariables false
structure GTries (t : Tbl) (tries workers done : Nat → Int) : Prop where
  tr : ∀ n, n < 6 → 0 ≤ tries n ∧ tries n ≤ (t.jobs n).tr
  wk : ∀ n, n < 6 → (t.jobs n).st = 2 → (t.jobs n).tr = tries n → (t.jobs n).wk = workers n
  d : ∀ n, n < 6 → 0 ≤ done n ∧ done n ≤ 1 ∧ (done n ≠ 0 → (t.jobs n).st = 3)
theorem GTries.zero : GTries Tbl.zero (fun _ => 0) (fun _ => 0) (fun _ => 0) :=
  ⟨fun n _ => ⟨Int.le_refl _, Int.le_refl _⟩, fun n _ h => by simp [Tbl.zero, Job.zero] at h, fun n _ => ⟨by omega, by omega, fun h => absurd rfl h⟩⟩
/-- Whatever is ordered, told or not. -/
theorem GTries.any {t : Tbl} {tries workers done : Nat → Int} (h : GTries t tries workers done) (hk : t.In) (o : Ord) : GTries (t.did o).1 tries workers done := by
  rcases did_shape t o with ⟨_, e, _⟩ | ⟨hc, i, hi, j', hd, h0, e, _⟩
  · rw [e]; exact h
  · rw [e]
    have hne : ∀ n, n < 6 → (0 ≤ tries n ∧ tries n ≤ (expire (max t.now o.now) (t.jobs n)).tr) ∧ ((expire (max t.now o.now) (t.jobs n)).st = 2 → (expire (max t.now o.now) (t.jobs n)).tr = tries n → (expire (max t.now o.now) (t.jobs n)).wk = workers n) := fun n hn => by
      rw [expire_tr]
      refine ⟨h.tr n hn, fun hs ht => ?_⟩
      rw [expire_wk hs]
      rw [(expire_held hs).1] at hs
      exact h.wk n hn hs ht
    have hdd : ∀ n, n < 6 → done n ≠ 0 → expire (max t.now o.now) (t.jobs n) = t.jobs n := fun n hn hd => expire_not (by have := (h.d n hn).2.2 hd; omega)
    obtain ⟨⟨hi1, hi2⟩, hi3⟩ := hne i hi
    have hdi : done i = 0 := by
      refine Classical.byContradiction fun hx => ?_
      have h3 := (h.d i hi).2.2 hx
      rw [hdd i hi hx] at hd
      cases hd with
      | take k s | add k _ s | renew k _ s | done k _ s | drop k _ s => omega
    refine ⟨fun n hn => ?_, fun n hn => ?_, fun n hn => ?_⟩
    · simp only [set_jobs, pass_jobs]
      split
      · rename_i hni; subst hni
        cases hd with
        | take k s ha => dsimp only; omega
        | add k hi' s ha =>
          have hz := (expire_ok (max t.now o.now) (hk.ok.jobs n)).ab s
          rw [hz] at hi2
          exact ⟨hi1, hi2⟩
        | renew k hi' s hw ht ha => exact ⟨hi1, hi2⟩
        | done k hi' s hw ht ha => exact ⟨hi1, hi2⟩
        | drop k hi' s hw ht ha => rw [expire_tr]; exact ⟨hi1, hi2⟩
      · exact (hne n hn).1
    · simp only [set_jobs, pass_jobs]
      split
      · rename_i hni; subst hni
        cases hd with
        | take k s ha => dsimp only; intro _ h; omega
        | add k hi' s ha => intro hs; simp at hs
        | renew k hi' s hw ht ha => intro _ h; exact hi3 s h
        | done k hi' s hw ht ha => intro hs; simp at hs
        | drop k hi' s hw ht ha => intro hs; have := (expire_held hs).2; dsimp only at this; omega
      · exact (hne n hn).2
    · refine ⟨(h.d n hn).1, (h.d n hn).2.1, fun hx => ?_⟩
      simp only [set_jobs, pass_jobs]
      split
      · rename_i hni; subst hni; exact absurd hdi hx
      · rw [hdd n hn hx]; exact (h.d n hn).2.2 hx
theorem GTries.take {t : Tbl} {tries workers done : Nat → Int} (h : GTries t tries workers done) (hk : t.In) {o : Ord} (h2 : o.kind = 2) (h0 : (t.did o).2.code = 0) :
    ∃ i : Nat, i < 6 ∧ (t.did o).2.job = i ∧ tries i < (t.did o).2.tr ∧ 0 ≤ (t.did o).2.tr ∧ (t.did o).2.tr ≤ 3 ∧ done i = 0 ∧ GTries (t.did o).1 (upd tries i (t.did o).2.tr) (upd workers i o.wk) done := by
  have hall := h.any hk o
  rcases did_shape t o with ⟨e0, _⟩ | ⟨hc, i, hi, j', hd, _, e, _⟩
  · exact absurd h0 e0
  · rw [e] at hall ⊢
    have hdd : ∀ n, n < 6 → done n ≠ 0 → expire (max t.now o.now) (t.jobs n) = t.jobs n := fun n hn hd => expire_not (by have := (h.d n hn).2.2 hd; omega)
    have hdi : done i = 0 := by
      refine Classical.byContradiction fun hx => ?_
      have h3 := (h.d i hi).2.2 hx
      rw [hdd i hi hx] at hd
      cases hd with
      | take k s | add k _ s | renew k _ s | done k _ s | drop k _ s => omega
    cases hd with
    | take k s ha =>
      have hok := expire_ok (max t.now o.now) (hk.ok.jobs i)
      have hwt := hok.wt s
      have htr := hok.tr
      rw [expire_tr] at hwt htr
      have h1 := h.tr i hi
      rw [ha]
      dsimp only
      rw [expire_tr] at hall ⊢
      refine ⟨i, hi, rfl, by omega, by omega, by omega, hdi, fun n hn => ?_, fun n hn => ?_, hall.d⟩
      · have hx := hall.tr n hn
        simp only [set_jobs, pass_jobs, upd] at hx ⊢
        by_cases hni : n = i
        · subst hni; rw [if_pos rfl, if_pos rfl]; dsimp only; omega
        · rw [if_neg hni] at hx ⊢; rw [if_neg hni]; exact hx
      · have hx := hall.wk n hn
        simp only [set_jobs, pass_jobs, upd] at hx ⊢
        by_cases hni : n = i
        · subst hni; simp
        · rw [if_neg hni] at hx ⊢; rw [if_neg hni, if_neg hni]; exact hx
    | add k | renew k | done k | drop k => omega
theorem GTries.done {t : Tbl} {tries workers done : Nat → Int} (h : GTries t tries workers done) (hk : t.In) {o : Ord} (h2 : o.kind = 4) (h0 : (t.did o).2.code = 0) :
    ∃ i : Nat, i < 6 ∧ o.job = i ∧ done i = 0 ∧ tries i ≤ o.tr ∧ (o.tr = tries i → o.wk = workers i) ∧ GTries (t.did o).1 tries workers (upd done i 1) := by
  have hall := h.any hk o
  rcases did_shape t o with ⟨e0, _⟩ | ⟨hc, i, hi, j', hd, _, e, _⟩
  · exact absurd h0 e0
  · rw [e] at hall ⊢
    cases hd with
    | done k hi' s hw ht ha =>
      obtain ⟨ex, _⟩ := expire_held s
      rw [ex] at hw ht s
      have hd0 : done i = 0 := by
        refine Classical.byContradiction fun hx => ?_
        have := (h.d i hi).2.2 hx
        omega
      have h1 := h.tr i hi
      refine ⟨i, hi, hi'.symm, hd0, by omega, fun hx => by rw [← hw]; exact h.wk i hi s (by omega), hall.tr, hall.wk, fun n hn => ?_⟩
      have hx := hall.d n hn
      simp only [set_jobs, pass_jobs, upd] at hx ⊢
      by_cases hni : n = i
      · subst hni; simp
      · rw [if_neg hni] at hx ⊢; rw [if_neg hni]; exact hx
    | take k | add k | renew k | drop k => omega
/-- What a step of the guild does to it. -/
theorem GTries.step {g : Gld} {l : List Rec} {x : Stp} {g' : Gld} {a : Ans} {l' : List Rec} {tries workers done : Nat → Int} (h : GTries (behind l) tries workers done) (s : Stepped g x l g' a l') : GTries (behind l') tries workers done := by
  rcases s.grew with e | ⟨n, _, _, _, _, _, _, e⟩
  · rw [e]; exact h
  · rw [e, behind_snoc]; exact h.any (behind_in l) _
theorem GTries.stepTake {g : Gld} {l : List Rec} {x : Stp} {g' : Gld} {a : Ans} {l' : List Rec} {tries workers done : Nat → Int} (h : GTries (behind l) tries workers done) (s : Stepped g x l g' a l') (hx : x.kind = 2) (ho : x.o.kind = 2) (h0 : a.code = 0) :
    ∃ i : Nat, i < 6 ∧ a.job = i ∧ tries i < a.tr ∧ 0 ≤ a.tr ∧ a.tr ≤ 3 ∧ done i = 0 ∧ GTries (behind l') (upd tries i a.tr) (upd workers i x.o.wk) done := by
  obtain ⟨⟨n, _, _, e⟩, ha⟩ := s.order hx h0
  rw [e, behind_snoc]
  subst ha
  exact h.take (o := x.o.at g.now) (behind_in l) ho h0
theorem GTries.stepDone {g : Gld} {l : List Rec} {x : Stp} {g' : Gld} {a : Ans} {l' : List Rec} {tries workers done : Nat → Int} (h : GTries (behind l) tries workers done) (s : Stepped g x l g' a l') (hx : x.kind = 2) (ho : x.o.kind = 4) (h0 : a.code = 0) :
    ∃ i : Nat, i < 6 ∧ x.o.job = i ∧ done i = 0 ∧ tries i ≤ x.o.tr ∧ (x.o.tr = tries i → x.o.wk = workers i) ∧ GTries (behind l') tries workers (upd done i 1) := by
  obtain ⟨⟨n, _, _, e⟩, ha⟩ := s.order hx h0
  rw [e, behind_snoc]
  subst ha
  exact h.done (o := x.o.at g.now) (behind_in l) ho h0
end Go.Proofs.Ytfihmpkkpgmdhab

/-
  Plain laws: a crew: nodes of one disk, in a list; the laws of nodes.
-/
namespace Go.Proofs.Ytfihmpkkpgmdhab
set_option linter.unusedVariables false
def fOf (ns : List Nod) : Nat → Option Nod := fun i => ns[i]?
theorem fOf_set (ns : List Nod) {i : Nat} (hi : i < ns.length) (n : Nod) : putN (fOf ns) i n = fOf (ns.set i n) := by
  funext k
  unfold putN fOf
  rw [List.getElem?_set]
  by_cases h : k = i
  · subst h; simp [hi]
  · rw [if_neg h, if_neg (fun e => h e.symm)]
theorem fOf_snoc (ns : List Nod) (n : Nod) : putN (fOf ns) ns.length n = fOf (ns ++ [n]) := by
  funext k
  unfold putN fOf
  by_cases h : k = ns.length
  · subst h; simp
  · rw [if_neg h]
    by_cases h2 : k < ns.length
    · rw [List.getElem?_append_left h2]
    · rw [List.getElem?_eq_none (by omega), List.getElem?_eq_none (by simp; omega)]
structure Crw where
  d : Dsk
  ns : List Nod
def Crw.Good (c : Crw) : Prop := (∃ l, Fam c.d (fOf c.ns) l) ∧ c.ns.length ≤ 8
theorem Crw.Good.dok {c : Crw} (h : c.Good) : c.d.Ok := h.1.elim fun _ h => h.ok
theorem Crw.Good.node {c : Crw} (h : c.Good) {i : Nat} {n : Nod} (hi : c.ns[i]? = some n) : 1 ≤ n.ep ∧ n.ep ≤ c.d.ep ∧ n.t.Ok := by
  obtain ⟨l, h⟩ := h.1
  have := h.sv i n hi
  exact ⟨this.1.1, this.1.2, this.2.1.ok⟩
theorem Crw.Good.order {c : Crw} (h : c.Good) {i : Nat} {n : Nod} (hi : c.ns[i]? = some n) (o : Ord) : (⟨(n.order c.d o 9).1, c.ns.set i (n.order c.d o 9).2.1⟩ : Crw).Good := by
  obtain ⟨⟨l, h⟩, h8⟩ := h
  have hl := (List.getElem?_eq_some_iff.1 hi).1
  refine ⟨?_, by simpa using h8⟩
  dsimp only
  rw [← fOf_set _ hl]
  obtain ⟨_, _, hc⟩ := h.order hi o
  rcases hc with ⟨_, hd, _, _, hf, _⟩ | ⟨_, _, _, _, _, hf⟩
  · rw [hd]; exact ⟨_, hf⟩
  · exact ⟨_, hf⟩
theorem Crw.Good.tear {c : Crw} (h : c.Good) {i : Nat} {n : Nod} (hi : c.ns[i]? = some n) (o : Ord) (kp : Int) : (⟨(n.tear c.d o (keepN kp)).1, c.ns.set i (n.tear c.d o (keepN kp)).2.1⟩ : Crw).Good := by
  obtain ⟨⟨l, h⟩, h8⟩ := h
  have hl := (List.getElem?_eq_some_iff.1 hi).1
  refine ⟨?_, by simpa using h8⟩
  dsimp only
  rw [← fOf_set _ hl]
  obtain ⟨_, _, hc⟩ := h.tear hi o (keepN_le kp)
  rcases hc with ⟨_, hd, hf, _⟩ | ⟨_, _, _, _, _, _, hf⟩
  · rw [hd]; exact ⟨_, hf⟩
  · rcases hf with ⟨_, hf⟩ | ⟨_, hf⟩
    · exact ⟨_, hf⟩
    · exact ⟨_, hf⟩
theorem Crw.Good.stop {c : Crw} (h : c.Good) {i : Nat} {n : Nod} (hi : c.ns[i]? = some n) : (⟨c.d, c.ns.set i ⟨n.t, n.ep, true⟩⟩ : Crw).Good := by
  obtain ⟨⟨l, h⟩, h8⟩ := h
  have hl := (List.getElem?_eq_some_iff.1 hi).1
  refine ⟨?_, by simpa using h8⟩
  dsimp only
  rw [← fOf_set _ hl]
  exact ⟨_, h.stop hi⟩
theorem Crw.Good.openKeep {c : Crw} (h : c.Good) (hc : ¬ 100 ≤ c.d.ep) (h8 : c.ns.length < 8) : (⟨(opened c.d).1, c.ns ++ [⟨behind (found c.d), c.d.ep + 1, false⟩]⟩ : Crw).Good := by
  obtain ⟨⟨l, h⟩, _⟩ := h
  refine ⟨?_, by simp; omega⟩
  dsimp only
  rw [← fOf_snoc]
  exact ⟨_, h.open hc _⟩
theorem Crw.Good.openNo {c : Crw} (h : c.Good) (hc : ¬ 100 ≤ c.d.ep) : (⟨(opened c.d).1, c.ns⟩ : Crw).Good := by
  obtain ⟨⟨l, h⟩, h8⟩ := h
  exact ⟨⟨_, h.openNo hc⟩, h8⟩
theorem Crw.empty_good {d : Dsk} (h : d.Ok) : (⟨d, []⟩ : Crw).Good := by
  refine ⟨⟨[], ?_⟩, by simp⟩
  have : fOf [] = fun _ => none := by funext k; simp [fOf]
  show Fam d (fOf []) []
  rw [this]
  exact Fam.empty h []
theorem newCrew_disk {b : List UInt8} (h : b.length ≤ 1400) : Dsk.zero.raise = (⟨1, []⟩, 1, 0) ∧ (⟨1, []⟩ : Dsk).append 1 b = (⟨1, b⟩, 0) ∧ (⟨1, []⟩ : Dsk).Ok ∧ (⟨1, b⟩ : Dsk).Ok := by
  refine ⟨by simp [Dsk.raise, Dsk.zero], ?_, ⟨by simp, by simp⟩, ⟨by simp, by dsimp only; omega⟩⟩
  unfold Dsk.append
  rw [if_neg (by simp), if_neg (by simp; omega)]
  simp
/-- A node that was fenced: an order, and a tear behind it. -/
theorem order_fenced {d : Dsk} {n : Nod} (h : n.ep ≠ d.ep) (o : Ord) (k : Nat) : ∃ c, (c = 9 ∨ c = 10) ∧ n.order d o k = (d, ⟨n.t, n.ep, true⟩, ⟨c, 0, 0⟩) := by
  unfold Nod.order
  obtain ⟨t, ep, dn⟩ := n
  cases dn with
  | true => exact ⟨10, .inr rfl, by rw [if_pos rfl]⟩
  | false => exact ⟨9, .inl rfl, by rw [if_neg (by simp), if_pos h]⟩
theorem tear_down (d : Dsk) (t : Tbl) (ep : Int) (o : Ord) (k : Nat) : (⟨t, ep, true⟩ : Nod).tear d o k = (d, ⟨t, ep, true⟩, 10) := by
  unfold Nod.tear Nod.order
  simp
/-- NodeTears. -/
theorem tears_law {d : Dsk} (hd : d.Ok) (hc : ¬ 100 ≤ d.ep) (o : Ord) (kp : Int) {d1 x1 : Dsk} {n x2 : Nod} {c : Int} (h1 : (opened d).1 = d1) (hn : n = ⟨behind (found d), d.ep + 1, false⟩) (hx : n.tear d1 o (keepN kp) = (x1, x2, c)) :
    d1.Ok ∧ x1.Ok ∧ allB d1.b = found d ∧ x2.ep = d.ep + 1 ∧ (¬ 100 ≤ x1.ep → (opened x1).1.Ok ∧ allB (opened x1).1.b = found x1) ∧
    (c ≠ 0 → (c = ((behind (found d)).did o).2.code ∨ c = 8) ∧ found x1 = found d ∧ x2.down = false) ∧
    (c = 0 → x2.down = true ∧ ((behind (found d)).did o).2.code = 0 ∧ (kp < 9 → found x1 = found d) ∧ (9 ≤ kp → found x1 = found d ++ [⟨d.ep + 1, o⟩])) := by
  have hfam := (Fam.empty hd (found d)).open hc 0
  rw [h1, ← hn] at hfam
  have hi : putN (fun _ => none) 0 n 0 = some n := by simp [putN]
  have he1 : d1.ep = d.ep + 1 := by rw [← h1, opened_yes hc]
  have hall : allB d1.b = found d := (hfam.wh ⟨0, n, hi⟩).all
  obtain ⟨e1, e2, hcase⟩ := hfam.tear hi o (keepN_le kp)
  rw [hx] at e1 e2 hcase
  dsimp only at e1 e2 hcase
  have hep : n.ep = d.ep + 1 := by rw [hn]
  have hdn : n.down = false := by rw [hn]
  have hfx : ∀ l f, Fam x1 f l → x1.Ok ∧ (¬ 100 ≤ x1.ep → (opened x1).1.Ok ∧ allB (opened x1).1.b = found x1) := fun l f hf => ⟨hf.ok, fun hx => ⟨opened_ok hf.ok hx, (whole_opened hx).all⟩⟩
  have hkp : kp < 9 → keepN kp < 9 := by unfold keepN; omega
  have hkp9 : 9 ≤ kp → keepN kp = 9 := by unfold keepN; omega
  rcases hcase with ⟨c0, rfl, hf, h8, hdw⟩ | ⟨c0, hdw, _, _, hcode, hchk, hf⟩
  · have h2 := hdw (by omega) hdn
    refine ⟨hfam.ok, (hfx _ _ hf).1, hall, by omega, (hfx _ _ hf).2, fun _ => ⟨(h8 h2).symm, ?_, h2⟩, fun e => absurd e c0⟩
    exact hf.found ⟨0, x2, by simp [putN]⟩
  · rcases hf with ⟨hk, hf⟩ | ⟨hk, hf⟩
    · refine ⟨hfam.ok, (hfx _ _ hf).1, hall, by omega, (hfx _ _ hf).2, fun e => absurd c0 e, fun _ => ⟨hdw, hcode, fun _ => hf.found ⟨0, x2, by simp [putN]⟩, fun h => ?_⟩⟩
      have := hkp9 h; omega
    · refine ⟨hfam.ok, (hfx _ _ hf).1, hall, by omega, (hfx _ _ hf).2, fun e => absurd c0 e, fun _ => ⟨hdw, hcode, fun h => ?_, fun _ => ?_⟩⟩
      · have := hkp h; omega
      · rw [← hep]; exact hf.found ⟨0, x2, by simp [putN]⟩
/-- NodeAnswers. -/
theorem answers_law {c : Crw} (h : c.Good) {i : Nat} {n : Nod} (hi : c.ns[i]? = some n) (o : Ord) {d' : Dsk} {n' : Nod} {a : Ans} (hx : n.order c.d o 9 = (d', n', a)) :
    n'.ep = n.ep ∧ d'.ep = c.d.ep ∧ (a.code ≠ 0 → d' = c.d ∧ a.job = 0 ∧ a.tr = 0) ∧ (a.code = 0 → a = ((behind (allB c.d.b)).did o).2 ∧ allB d'.b = allB c.d.b ++ [⟨n.ep, o⟩]) := by
  obtain ⟨⟨l, h⟩, h8⟩ := h
  have hl := (List.getElem?_eq_some_iff.1 hi).1
  obtain ⟨e1, e2, hc⟩ := h.order hi o
  rw [hx] at e1 e2 hc
  dsimp only at e1 e2 hc
  have hw : allB c.d.b = l := (h.wh ⟨i, n, hi⟩).all
  rw [hw]
  rcases hc with ⟨c0, hd, hj, ht, hf, _⟩ | ⟨c0, ha, _, _, _, hf⟩
  · exact ⟨e1, e2, fun _ => ⟨hd, hj, ht⟩, fun e => absurd e c0⟩
  · exact ⟨e1, e2, fun e => absurd c0 e, fun _ => ⟨ha, (hf.wh ⟨i, n', by simp [putN]⟩).all⟩⟩
/-- NodeAgain. -/
theorem again_law {c : Crw} (h : c.Good) {i : Nat} {n : Nod} (hi : c.ns[i]? = some n) (he : n.ep = c.d.ep) (hd : n.down = false) : n.t = behind (found c.d) := by
  obtain ⟨⟨l, h⟩, h8⟩ := h
  rw [h.found ⟨i, n, hi⟩]
  exact ((h.sv i n hi).2.2 he hd).2
theorem opened_all {d : Dsk} (hc : ¬ 100 ≤ d.ep) : allB (opened d).1.b = found d ∧ (opened d).1.b.length = 9 * (found d).length ∧ (opened d).1.ep = d.ep + 1 := by
  refine ⟨(whole_opened hc).all, ?_, ?_⟩
  · rw [opened_yes hc]; exact encAll_len _
  · rw [opened_yes hc]
end Go.Proofs.Ytfihmpkkpgmdhab

/-
  Plain laws: GuildSerial, GuildStops, the stories of a guild's disk.
-/
namespace Go.Proofs.Ytfihmpkkpgmdhab
set_option linter.unusedVariables false
theorem nod_at {g : Gld} {n : Nat} (h : n < 3) : g.nod n = g.f n := by
  unfold Gld.nod
  rw [if_neg (by omega)]
  rfl
/-- Opened: it serves, or there are no more epochs. -/
theorem step_open {g : Gld} {l : List Rec} (h : g.Ok l) {n : Nat} (hn : n < 3) (kp : Int) (o : Ord) {g' : Gld} {a : Ans} (hs : g.step ⟨1, n, kp, o⟩ = (g', a)) :
    g'.Ok l ∧ a.job = 0 ∧ a.tr = 0 ∧ (a.code ≠ 0 → g'.d.ep = 100) ∧ (a.code = 0 → g'.f n = some ⟨behind l, g.d.ep + 1, false⟩) := by
  obtain ⟨l', s⟩ := step_ok h ⟨1, n, kp, o⟩
  rw [hs] at s
  have hl : l' = l := by
    rcases s.grew with e | ⟨m, h1, _⟩
    · exact e
    · dsimp only at h1; omega
  rw [hl] at s
  have hok := s.ok
  unfold Gld.step at hs
  dsimp only at hs hok
  rw [if_pos rfl, if_neg (by omega)] at hs
  by_cases hc : 100 ≤ g.d.ep
  · rw [if_pos hc] at hs
    injection hs with e1 e2
    subst e1 e2
    have := h.fam.ok.ep
    exact ⟨h, rfl, rfl, fun _ => by omega, fun e => by cases e⟩
  · rw [if_neg hc] at hs
    injection hs with e1 e2
    subst e1 e2
    refine ⟨hok, rfl, rfl, fun e => absurd rfl e, fun _ => ?_⟩
    have hf : found g.d = l := h.wh.found
    simp [putN, hf]
theorem step_down {g : Gld} {l : List Rec} (h : g.Ok l) {n : Nat} (hn : n < 3) (kp : Int) (o : Ord) {nd : Nod} (hf : g.f n = some nd) {g' : Gld} {a : Ans} (hs : g.step ⟨4, n, kp, o⟩ = (g', a)) :
    g'.Ok l ∧ g'.f n = some ⟨nd.t, nd.ep, true⟩ := by
  obtain ⟨l', s⟩ := step_ok h ⟨4, n, kp, o⟩
  rw [hs] at s
  have hl : l' = l := by
    rcases s.grew with e | ⟨m, h1, _⟩
    · exact e
    · dsimp only at h1; omega
  rw [hl] at s
  have hok := s.ok
  unfold Gld.step at hs
  dsimp only at hs hok
  rw [if_neg (by decide), if_neg (by decide), if_pos (by decide), nod_at hn, hf] at hs
  dsimp only at hs
  rw [if_neg (by decide), if_neg (by decide)] at hs
  injection hs with e1 e2
  subst e1 e2
  exact ⟨hok, by simp [putN]⟩
theorem step_isdown {g : Gld} {l : List Rec} (h : g.Ok l) {n : Nat} (hn : n < 3) (kp : Int) (o : Ord) {nd : Nod} (hf : g.f n = some nd) (hd : nd.down = true) {g' : Gld} {a : Ans} (hs : g.step ⟨2, n, kp, o⟩ = (g', a)) :
    g'.Ok l ∧ a = ⟨10, 0, 0⟩ := by
  have ha : a = ⟨10, 0, 0⟩ := by
    have hs2 := hs
    unfold Gld.step at hs2
    dsimp only at hs2
    rw [if_neg (by decide), if_neg (by decide), if_pos (by decide), nod_at hn, hf] at hs2
    dsimp only at hs2
    rw [if_pos rfl] at hs2
    unfold Nod.order at hs2
    rw [if_pos hd] at hs2
    injection hs2 with e1 e2
    exact e2.symm
  obtain ⟨l', s⟩ := step_ok h ⟨2, n, kp, o⟩
  rw [hs] at s
  have hl : l' = l := (s.code rfl (by rw [ha]; simp)).1
  rw [hl] at s
  exact ⟨s.ok, ha⟩
/-- What stands on a guild's disk. -/
theorem rising_get : ∀ {l : List Rec} {e : Int} {i : Nat} {r : Rec}, Rising e l → l[i]? = some r → lastE e (l.take i) ≤ r.ep ∧ chkR r = 0 ∧ lastE e (l.take (i + 1)) = r.ep
  | [], _, _, _, _, h => by simp at h
  | q :: l, e, 0, r, ⟨a, b, c⟩, h => by
    simp at h
    subst h
    exact ⟨b, a, by simp [lastE]⟩
  | q :: l, e, i + 1, r, ⟨a, b, c⟩, h => by
    simp only [List.getElem?_cons_succ] at h
    obtain ⟨h1, h2, h3⟩ := rising_get c h
    simp only [List.take_succ_cons, lastE]
    exact ⟨h1, h2, h3⟩
def lastOf (l : List Rec) (i : Nat) : Int := max 1 (lastE 0 (l.take i))
theorem lastOf_zero (l : List Rec) : lastOf l 0 = 1 := by show max 1 (lastE 0 (l.take 0)) = 1; rw [List.take_zero]; rfl
theorem lastOf_step {d : Dsk} {l : List Rec} (h : Whole d l) {i : Nat} {r : Rec} (hr : l[i]? = some r) : lastOf l i ≤ r.ep ∧ r.ep ≤ d.ep ∧ lastOf l (i + 1) = r.ep := by
  obtain ⟨h1, h2, h3⟩ := rising_get h.rising hr
  have h4 := (chkR_range h2).1
  have h5 := h.le r (List.mem_of_getElem? hr)
  unfold lastOf
  omega
theorem done_get {t : Tbl} {l : List Rec} (h : Done t l) {i : Nat} {r : Rec} (hr : l[i]? = some r) : ((runL t (l.take i)).did r.o).2.code = 0 := by
  have h1 := evs_get t l i r hr
  have h2 := done_codes h (evOf (runL t (l.take i)) r) (List.mem_of_getElem? h1)
  exact h2
/-- The one that serves has what the disk tells. -/
theorem serves_tells {g : Gld} {l : List Rec} (h : g.Ok l) {n : Nat} {nd : Nod} (hf : g.f n = some nd) (he : nd.ep = g.d.ep) (hd : nd.down = false) : nd.t = behind l :=
  ((h.fam.sv n nd hf).2.2 he hd).2
theorem holders_zero (l : List Rec) {k : Nat} (hk : k < 6) : ((holders (evs Tbl.zero l) k).length : Int) = ((behind l).jobs k).tr ∧ ∀ (i : Nat) p, (holders (evs Tbl.zero l) k)[i]? = some p → p.2 = i + 1 := by
  obtain ⟨h1, h2⟩ := holders_tr l Tbl.zero k hk Tbl.zero_in
  have e : (Tbl.zero.jobs k).tr = 0 := rfl
  rw [e] at h1 h2
  refine ⟨by unfold behind; omega, fun i p hp => ?_⟩
  have := h2 i p hp
  omega
/-- The events of the first bytes. -/
theorem evs_parts (b : List UInt8) (k : Nat) : evs Tbl.zero (allB (b.take k)) = (evs Tbl.zero (allB b)).take (k / 9) := by rw [allB_take, evs_take]
end Go.Proofs.Ytfihmpkkpgmdhab
