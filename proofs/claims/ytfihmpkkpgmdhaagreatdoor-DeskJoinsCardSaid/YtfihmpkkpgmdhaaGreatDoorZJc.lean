/-
  What the proof of DeskJoins leans on: plain definitions and laws, and contracts of functions that it reaches. No condition besides those that each theorem names.
-/
import Derived.Test.YtfihmpkkpgmdhaaGreatDoorZJb
import Derived.Lib.SplitLaws
import Derived.Lib.ItoaLen
import Derived.Lib.AtoiAll
import Derived.Lib.Join
import Derived.Test.YtfihmpkkpgmdhaaGreatDoorProg
import Derived.WalkKit
import Derived.WalkLawsBesides
import Derived.WalkSpells
import Derived.Lib.Hide
import Derived.Deep.QuietTactic
import Derived.BigQuiet
import Derived.RegionTactic
import Derived.BigRegion
/-
  Plain definitions and laws, no program in sight.
-/
/-
  Plain law of GuildTries: what was answered to those that took jobs, torn orders between.
-/
namespace Go.Proofs.YtfihmpkkpgmdhaaGreatDoor
set_option linter.unusedVariables false
structure GTries (t : Tbl) (tries workers done : Nat → Int) : Prop where
  tr : ∀ n, n < 6 → 0 ≤ tries n ∧ tries n ≤ (t.jobs n).tr
  wk : ∀ n, n < 6 → (t.jobs n).st = 2 → (t.jobs n).tr = tries n → (t.jobs n).wk = workers n
  d : ∀ n, n < 6 → 0 ≤ done n ∧ done n ≤ 1 ∧ (done n ≠ 0 → (t.jobs n).st = 3)
theorem GTries.zero : GTries Tbl.zero (fun _ => 0) (fun _ => 0) (fun _ => 0) :=
  ⟨fun n _ => ⟨Int.le_refl _, Int.le_refl _⟩, fun n _ h => by simp [Tbl.zero, Job.zero] at h, fun n _ => ⟨by omega, by omega, fun h => absurd rfl h⟩⟩
/-- Whatever is ordered, told or not. -/
theorem GTries.any {t : Tbl} {tries workers done : Nat → Int} (h : GTries t tries workers done) (hk : t.In) (o : Ord) : GTries (t.did o).1 tries workers done := by
  rcases did_shape t o with ⟨_, e, _⟩ | ⟨hc, i, hi, j', hd, h0, e, _⟩
  · rw [e]; exact h
  · rw [e]
    have hne : ∀ n, n < 6 → (0 ≤ tries n ∧ tries n ≤ (expire (max t.now o.now) (t.jobs n)).tr) ∧ ((expire (max t.now o.now) (t.jobs n)).st = 2 → (expire (max t.now o.now) (t.jobs n)).tr = tries n → (expire (max t.now o.now) (t.jobs n)).wk = workers n) := fun n hn => by
      rw [expire_tr]
      refine ⟨h.tr n hn, fun hs ht => ?_⟩
      rw [expire_wk hs]
      rw [(expire_held hs).1] at hs
      exact h.wk n hn hs ht
    have hdd : ∀ n, n < 6 → done n ≠ 0 → expire (max t.now o.now) (t.jobs n) = t.jobs n := fun n hn hd => expire_not (by have := (h.d n hn).2.2 hd; omega)
    obtain ⟨⟨hi1, hi2⟩, hi3⟩ := hne i hi
    have hdi : done i = 0 := by
      refine Classical.byContradiction fun hx => ?_
      have h3 := (h.d i hi).2.2 hx
      rw [hdd i hi hx] at hd
      cases hd with
      | take k s | add k _ s | renew k _ s | done k _ s | drop k _ s => omega
    refine ⟨fun n hn => ?_, fun n hn => ?_, fun n hn => ?_⟩
    · simp only [set_jobs, pass_jobs]
      split
      · rename_i hni; subst hni
        cases hd with
        | take k s ha => dsimp only; omega
        | add k hi' s ha =>
          have hz := (expire_ok (max t.now o.now) (hk.ok.jobs n)).ab s
          rw [hz] at hi2
          exact ⟨hi1, hi2⟩
        | renew k hi' s hw ht ha => exact ⟨hi1, hi2⟩
        | done k hi' s hw ht ha => exact ⟨hi1, hi2⟩
        | drop k hi' s hw ht ha => rw [expire_tr]; exact ⟨hi1, hi2⟩
      · exact (hne n hn).1
    · simp only [set_jobs, pass_jobs]
      split
      · rename_i hni; subst hni
        cases hd with
        | take k s ha => dsimp only; intro _ h; omega
        | add k hi' s ha => intro hs; simp at hs
        | renew k hi' s hw ht ha => intro _ h; exact hi3 s h
        | done k hi' s hw ht ha => intro hs; simp at hs
        | drop k hi' s hw ht ha => intro hs; have := (expire_held hs).2; dsimp only at this; omega
      · exact (hne n hn).2
    · refine ⟨(h.d n hn).1, (h.d n hn).2.1, fun hx => ?_⟩
      simp only [set_jobs, pass_jobs]
      split
      · rename_i hni; subst hni; exact absurd hdi hx
      · rw [hdd n hn hx]; exact (h.d n hn).2.2 hx
theorem GTries.take {t : Tbl} {tries workers done : Nat → Int} (h : GTries t tries workers done) (hk : t.In) {o : Ord} (h2 : o.kind = 2) (h0 : (t.did o).2.code = 0) :
    ∃ i : Nat, i < 6 ∧ (t.did o).2.job = i ∧ tries i < (t.did o).2.tr ∧ 0 ≤ (t.did o).2.tr ∧ (t.did o).2.tr ≤ 3 ∧ done i = 0 ∧ GTries (t.did o).1 (upd tries i (t.did o).2.tr) (upd workers i o.wk) done := by
  have hall := h.any hk o
  rcases did_shape t o with ⟨e0, _⟩ | ⟨hc, i, hi, j', hd, _, e, _⟩
  · exact absurd h0 e0
  · rw [e] at hall ⊢
    have hdd : ∀ n, n < 6 → done n ≠ 0 → expire (max t.now o.now) (t.jobs n) = t.jobs n := fun n hn hd => expire_not (by have := (h.d n hn).2.2 hd; omega)
    have hdi : done i = 0 := by
      refine Classical.byContradiction fun hx => ?_
      have h3 := (h.d i hi).2.2 hx
      rw [hdd i hi hx] at hd
      cases hd with
      | take k s | add k _ s | renew k _ s | done k _ s | drop k _ s => omega
    cases hd with
    | take k s ha =>
      have hok := expire_ok (max t.now o.now) (hk.ok.jobs i)
      have hwt := hok.wt s
      have htr := hok.tr
      rw [expire_tr] at hwt htr
      have h1 := h.tr i hi
      rw [ha]
      dsimp only
      rw [expire_tr] at hall ⊢
      refine ⟨i, hi, rfl, by omega, by omega, by omega, hdi, fun n hn => ?_, fun n hn => ?_, hall.d⟩
      · have hx := hall.tr n hn
        simp only [set_jobs, pass_jobs, upd] at hx ⊢
        by_cases hni : n = i
        · subst hni; rw [if_pos rfl, if_pos rfl]; dsimp only; omega
        · rw [if_neg hni] at hx ⊢; rw [if_neg hni]; exact hx
      · have hx := hall.wk n hn
        simp only [set_jobs, pass_jobs, upd] at hx ⊢
        by_cases hni : n = i
        · subst hni; simp
        · rw [if_neg hni] at hx ⊢; rw [if_neg hni, if_neg hni]; exact hx
    | add k | renew k | done k | drop k => omega
theorem GTries.done {t : Tbl} {tries workers done : Nat → Int} (h : GTries t tries workers done) (hk : t.In) {o : Ord} (h2 : o.kind = 4) (h0 : (t.did o).2.code = 0) :
    ∃ i : Nat, i < 6 ∧ o.job = i ∧ done i = 0 ∧ tries i ≤ o.tr ∧ (o.tr = tries i → o.wk = workers i) ∧ GTries (t.did o).1 tries workers (upd done i 1) := by
  have hall := h.any hk o
  rcases did_shape t o with ⟨e0, _⟩ | ⟨hc, i, hi, j', hd, _, e, _⟩
  · exact absurd h0 e0
  · rw [e] at hall ⊢
    cases hd with
    | done k hi' s hw ht ha =>
      obtain ⟨ex, _⟩ := expire_held s
      rw [ex] at hw ht s
      have hd0 : done i = 0 := by
        refine Classical.byContradiction fun hx => ?_
        have := (h.d i hi).2.2 hx
        omega
      have h1 := h.tr i hi
      refine ⟨i, hi, hi'.symm, hd0, by omega, fun hx => by rw [← hw]; exact h.wk i hi s (by omega), hall.tr, hall.wk, fun n hn => ?_⟩
      have hx := hall.d n hn
      simp only [set_jobs, pass_jobs, upd] at hx ⊢
      by_cases hni : n = i
      · subst hni; simp
      · rw [if_neg hni] at hx ⊢; rw [if_neg hni]; exact hx
    | take k | add k | renew k | drop k => omega
/-- What a step of the guild does to it. -/
theorem GTries.step {g : Gld} {l : List Rec} {x : Stp} {g' : Gld} {a : Ans} {l' : List Rec} {tries workers done : Nat → Int} (h : GTries (behind l) tries workers done) (s : Stepped g x l g' a l') : GTries (behind l') tries workers done := by
  rcases s.grew with e | ⟨n, _, _, _, _, _, _, e⟩
  · rw [e]; exact h
  · rw [e, behind_snoc]; exact h.any (behind_in l) _
theorem GTries.stepTake {g : Gld} {l : List Rec} {x : Stp} {g' : Gld} {a : Ans} {l' : List Rec} {tries workers done : Nat → Int} (h : GTries (behind l) tries workers done) (s : Stepped g x l g' a l') (hx : x.kind = 2) (ho : x.o.kind = 2) (h0 : a.code = 0) :
    ∃ i : Nat, i < 6 ∧ a.job = i ∧ tries i < a.tr ∧ 0 ≤ a.tr ∧ a.tr ≤ 3 ∧ done i = 0 ∧ GTries (behind l') (upd tries i a.tr) (upd workers i x.o.wk) done := by
  obtain ⟨⟨n, _, _, e⟩, ha⟩ := s.order hx h0
  rw [e, behind_snoc]
  subst ha
  exact h.take (o := x.o.at g.now) (behind_in l) ho h0
theorem GTries.stepDone {g : Gld} {l : List Rec} {x : Stp} {g' : Gld} {a : Ans} {l' : List Rec} {tries workers done : Nat → Int} (h : GTries (behind l) tries workers done) (s : Stepped g x l g' a l') (hx : x.kind = 2) (ho : x.o.kind = 4) (h0 : a.code = 0) :
    ∃ i : Nat, i < 6 ∧ x.o.job = i ∧ done i = 0 ∧ tries i ≤ x.o.tr ∧ (x.o.tr = tries i → x.o.wk = workers i) ∧ GTries (behind l') tries workers (upd done i 1) := by
  obtain ⟨⟨n, _, _, e⟩, ha⟩ := s.order hx h0
  rw [e, behind_snoc]
  subst ha
  exact h.done (o := x.o.at g.now) (behind_in l) ho h0
end Go.Proofs.YtfihmpkkpgmdhaaGreatDoor

/-
  Plain laws: a crew: nodes of one disk, in a list; the laws of nodes.
-/
namespace Go.Proofs.YtfihmpkkpgmdhaaGreatDoor
set_option linter.unusedVariables false
def fOf (ns : List Nod) : Nat → Option Nod := fun i => ns[i]?
theorem fOf_set (ns : List Nod) {i : Nat} (hi : i < ns.length) (n : Nod) : putN (fOf ns) i n = fOf (ns.set i n) := by
  funext k
  unfold putN fOf
  rw [List.getElem?_set]
  by_cases h : k = i
  · subst h; simp [hi]
  · rw [if_neg h, if_neg (fun e => h e.symm)]
theorem fOf_snoc (ns : List Nod) (n : Nod) : putN (fOf ns) ns.length n = fOf (ns ++ [n]) := by
  funext k
  unfold putN fOf
  by_cases h : k = ns.length
  · subst h; simp
  · rw [if_neg h]
    by_cases h2 : k < ns.length
    · rw [List.getElem?_append_left h2]
    · rw [List.getElem?_eq_none (by omega), List.getElem?_eq_none (by simp; omega)]
structure Crw where
  d : Dsk
  ns : List Nod
def Crw.Good (c : Crw) : Prop := (∃ l, Fam c.d (fOf c.ns) l) ∧ c.ns.length ≤ 8
theorem Crw.Good.dok {c : Crw} (h : c.Good) : c.d.Ok := h.1.elim fun _ h => h.ok
theorem Crw.Good.node {c : Crw} (h : c.Good) {i : Nat} {n : Nod} (hi : c.ns[i]? = some n) : 1 ≤ n.ep ∧ n.ep ≤ c.d.ep ∧ n.t.Ok := by
  obtain ⟨l, h⟩ := h.1
  have := h.sv i n hi
  exact ⟨this.1.1, this.1.2, this.2.1.ok⟩
theorem Crw.Good.order {c : Crw} (h : c.Good) {i : Nat} {n : Nod} (hi : c.ns[i]? = some n) (o : Ord) : (⟨(n.order c.d o 9).1, c.ns.set i (n.order c.d o 9).2.1⟩ : Crw).Good := by
  obtain ⟨⟨l, h⟩, h8⟩ := h
  have hl := (List.getElem?_eq_some_iff.1 hi).1
  refine ⟨?_, by simpa using h8⟩
  dsimp only
  rw [← fOf_set _ hl]
  obtain ⟨_, _, hc⟩ := h.order hi o
  rcases hc with ⟨_, hd, _, _, hf, _⟩ | ⟨_, _, _, _, _, hf⟩
  · rw [hd]; exact ⟨_, hf⟩
  · exact ⟨_, hf⟩
theorem Crw.Good.tear {c : Crw} (h : c.Good) {i : Nat} {n : Nod} (hi : c.ns[i]? = some n) (o : Ord) (kp : Int) : (⟨(n.tear c.d o (keepN kp)).1, c.ns.set i (n.tear c.d o (keepN kp)).2.1⟩ : Crw).Good := by
  obtain ⟨⟨l, h⟩, h8⟩ := h
  have hl := (List.getElem?_eq_some_iff.1 hi).1
  refine ⟨?_, by simpa using h8⟩
  dsimp only
  rw [← fOf_set _ hl]
  obtain ⟨_, _, hc⟩ := h.tear hi o (keepN_le kp)
  rcases hc with ⟨_, hd, hf, _⟩ | ⟨_, _, _, _, _, _, hf⟩
  · rw [hd]; exact ⟨_, hf⟩
  · rcases hf with ⟨_, hf⟩ | ⟨_, hf⟩
    · exact ⟨_, hf⟩
    · exact ⟨_, hf⟩
theorem Crw.Good.stop {c : Crw} (h : c.Good) {i : Nat} {n : Nod} (hi : c.ns[i]? = some n) : (⟨c.d, c.ns.set i ⟨n.t, n.ep, true⟩⟩ : Crw).Good := by
  obtain ⟨⟨l, h⟩, h8⟩ := h
  have hl := (List.getElem?_eq_some_iff.1 hi).1
  refine ⟨?_, by simpa using h8⟩
  dsimp only
  rw [← fOf_set _ hl]
  exact ⟨_, h.stop hi⟩
theorem Crw.Good.openKeep {c : Crw} (h : c.Good) (hc : ¬ 100 ≤ c.d.ep) (h8 : c.ns.length < 8) : (⟨(opened c.d).1, c.ns ++ [⟨behind (found c.d), c.d.ep + 1, false⟩]⟩ : Crw).Good := by
  obtain ⟨⟨l, h⟩, _⟩ := h
  refine ⟨?_, by simp; omega⟩
  dsimp only
  rw [← fOf_snoc]
  exact ⟨_, h.open hc _⟩
theorem Crw.Good.openNo {c : Crw} (h : c.Good) (hc : ¬ 100 ≤ c.d.ep) : (⟨(opened c.d).1, c.ns⟩ : Crw).Good := by
  obtain ⟨⟨l, h⟩, h8⟩ := h
  exact ⟨⟨_, h.openNo hc⟩, h8⟩
theorem Crw.empty_good {d : Dsk} (h : d.Ok) : (⟨d, []⟩ : Crw).Good := by
  refine ⟨⟨[], ?_⟩, by simp⟩
  have : fOf [] = fun _ => none := by funext k; simp [fOf]
  show Fam d (fOf []) []
  rw [this]
  exact Fam.empty h []
theorem newCrew_disk {b : List UInt8} (h : b.length ≤ 1400) : Dsk.zero.raise = (⟨1, []⟩, 1, 0) ∧ (⟨1, []⟩ : Dsk).append 1 b = (⟨1, b⟩, 0) ∧ (⟨1, []⟩ : Dsk).Ok ∧ (⟨1, b⟩ : Dsk).Ok := by
  refine ⟨by simp [Dsk.raise, Dsk.zero], ?_, ⟨by simp, by simp⟩, ⟨by simp, by dsimp only; omega⟩⟩
  unfold Dsk.append
  rw [if_neg (by simp), if_neg (by simp; omega)]
  simp
/-- A node that was fenced: an order, and a tear behind it. -/
theorem order_fenced {d : Dsk} {n : Nod} (h : n.ep ≠ d.ep) (o : Ord) (k : Nat) : ∃ c, (c = 9 ∨ c = 10) ∧ n.order d o k = (d, ⟨n.t, n.ep, true⟩, ⟨c, 0, 0⟩) := by
  unfold Nod.order
  obtain ⟨t, ep, dn⟩ := n
  cases dn with
  | true => exact ⟨10, .inr rfl, by rw [if_pos rfl]⟩
  | false => exact ⟨9, .inl rfl, by rw [if_neg (by simp), if_pos h]⟩
theorem tear_down (d : Dsk) (t : Tbl) (ep : Int) (o : Ord) (k : Nat) : (⟨t, ep, true⟩ : Nod).tear d o k = (d, ⟨t, ep, true⟩, 10) := by
  unfold Nod.tear Nod.order
  simp
/-- NodeTears. -/
theorem tears_law {d : Dsk} (hd : d.Ok) (hc : ¬ 100 ≤ d.ep) (o : Ord) (kp : Int) {d1 x1 : Dsk} {n x2 : Nod} {c : Int} (h1 : (opened d).1 = d1) (hn : n = ⟨behind (found d), d.ep + 1, false⟩) (hx : n.tear d1 o (keepN kp) = (x1, x2, c)) :
    d1.Ok ∧ x1.Ok ∧ allB d1.b = found d ∧ x2.ep = d.ep + 1 ∧ (¬ 100 ≤ x1.ep → (opened x1).1.Ok ∧ allB (opened x1).1.b = found x1) ∧
    (c ≠ 0 → (c = ((behind (found d)).did o).2.code ∨ c = 8) ∧ found x1 = found d ∧ x2.down = false) ∧
    (c = 0 → x2.down = true ∧ ((behind (found d)).did o).2.code = 0 ∧ (kp < 9 → found x1 = found d) ∧ (9 ≤ kp → found x1 = found d ++ [⟨d.ep + 1, o⟩])) := by
  have hfam := (Fam.empty hd (found d)).open hc 0
  rw [h1, ← hn] at hfam
  have hi : putN (fun _ => none) 0 n 0 = some n := by simp [putN]
  have he1 : d1.ep = d.ep + 1 := by rw [← h1, opened_yes hc]
  have hall : allB d1.b = found d := (hfam.wh ⟨0, n, hi⟩).all
  obtain ⟨e1, e2, hcase⟩ := hfam.tear hi o (keepN_le kp)
  rw [hx] at e1 e2 hcase
  dsimp only at e1 e2 hcase
  have hep : n.ep = d.ep + 1 := by rw [hn]
  have hdn : n.down = false := by rw [hn]
  have hfx : ∀ l f, Fam x1 f l → x1.Ok ∧ (¬ 100 ≤ x1.ep → (opened x1).1.Ok ∧ allB (opened x1).1.b = found x1) := fun l f hf => ⟨hf.ok, fun hx => ⟨opened_ok hf.ok hx, (whole_opened hx).all⟩⟩
  have hkp : kp < 9 → keepN kp < 9 := by unfold keepN; omega
  have hkp9 : 9 ≤ kp → keepN kp = 9 := by unfold keepN; omega
  rcases hcase with ⟨c0, rfl, hf, h8, hdw⟩ | ⟨c0, hdw, _, _, hcode, hchk, hf⟩
  · have h2 := hdw (by omega) hdn
    refine ⟨hfam.ok, (hfx _ _ hf).1, hall, by omega, (hfx _ _ hf).2, fun _ => ⟨(h8 h2).symm, ?_, h2⟩, fun e => absurd e c0⟩
    exact hf.found ⟨0, x2, by simp [putN]⟩
  · rcases hf with ⟨hk, hf⟩ | ⟨hk, hf⟩
    · refine ⟨hfam.ok, (hfx _ _ hf).1, hall, by omega, (hfx _ _ hf).2, fun e => absurd c0 e, fun _ => ⟨hdw, hcode, fun _ => hf.found ⟨0, x2, by simp [putN]⟩, fun h => ?_⟩⟩
      have := hkp9 h; omega
    · refine ⟨hfam.ok, (hfx _ _ hf).1, hall, by omega, (hfx _ _ hf).2, fun e => absurd c0 e, fun _ => ⟨hdw, hcode, fun h => ?_, fun _ => ?_⟩⟩
      · have := hkp h; omega
      · rw [← hep]; exact hf.found ⟨0, x2, by simp [putN]⟩
/-- NodeAnswers. -/
theorem answers_law {c : Crw} (h : c.Good) {i : Nat} {n : Nod} (hi : c.ns[i]? = some n) (o : Ord) {d' : Dsk} {n' : Nod} {a : Ans} (hx : n.order c.d o 9 = (d', n', a)) :
    n'.ep = n.ep ∧ d'.ep = c.d.ep ∧ (a.code ≠ 0 → d' = c.d ∧ a.job = 0 ∧ a.tr = 0) ∧ (a.code = 0 → a = ((behind (allB c.d.b)).did o).2 ∧ allB d'.b = allB c.d.b ++ [⟨n.ep, o⟩]) := by
  obtain ⟨⟨l, h⟩, h8⟩ := h
  have hl := (List.getElem?_eq_some_iff.1 hi).1
  obtain ⟨e1, e2, hc⟩ := h.order hi o
  rw [hx] at e1 e2 hc
  dsimp only at e1 e2 hc
  have hw : allB c.d.b = l := (h.wh ⟨i, n, hi⟩).all
  rw [hw]
  rcases hc with ⟨c0, hd, hj, ht, hf, _⟩ | ⟨c0, ha, _, _, _, hf⟩
  · exact ⟨e1, e2, fun _ => ⟨hd, hj, ht⟩, fun e => absurd e c0⟩
  · exact ⟨e1, e2, fun e => absurd c0 e, fun _ => ⟨ha, (hf.wh ⟨i, n', by simp [putN]⟩).all⟩⟩
/-- NodeAgain. -/
theorem again_law {c : Crw} (h : c.Good) {i : Nat} {n : Nod} (hi : c.ns[i]? = some n) (he : n.ep = c.d.ep) (hd : n.down = false) : n.t = behind (found c.d) := by
  obtain ⟨⟨l, h⟩, h8⟩ := h
  rw [h.found ⟨i, n, hi⟩]
  exact ((h.sv i n hi).2.2 he hd).2
theorem opened_all {d : Dsk} (hc : ¬ 100 ≤ d.ep) : allB (opened d).1.b = found d ∧ (opened d).1.b.length = 9 * (found d).length ∧ (opened d).1.ep = d.ep + 1 := by
  refine ⟨(whole_opened hc).all, ?_, ?_⟩
  · rw [opened_yes hc]; exact encAll_len _
  · rw [opened_yes hc]
end Go.Proofs.YtfihmpkkpgmdhaaGreatDoor

/-
  Plain laws: GuildSerial, GuildStops, the stories of a guild's disk.
-/
namespace Go.Proofs.YtfihmpkkpgmdhaaGreatDoor
set_option linter.unusedVariables false
theorem nod_at {g : Gld} {n : Nat} (h : n < 3) : g.nod n = g.f n := by
  unfold Gld.nod
  rw [if_neg (by omega)]
  rfl
/-- Opened: it serves, or there are no more epochs. -/
theorem step_open {g : Gld} {l : List Rec} (h : g.Ok l) {n : Nat} (hn : n < 3) (kp : Int) (o : Ord) {g' : Gld} {a : Ans} (hs : g.step ⟨1, n, kp, o⟩ = (g', a)) :
    g'.Ok l ∧ a.job = 0 ∧ a.tr = 0 ∧ (a.code ≠ 0 → g'.d.ep = 100) ∧ (a.code = 0 → g'.f n = some ⟨behind l, g.d.ep + 1, false⟩) := by
  obtain ⟨l', s⟩ := step_ok h ⟨1, n, kp, o⟩
  rw [hs] at s
  have hl : l' = l := by
    rcases s.grew with e | ⟨m, h1, _⟩
    · exact e
    · dsimp only at h1; omega
  rw [hl] at s
  have hok := s.ok
  unfold Gld.step at hs
  dsimp only at hs hok
  rw [if_pos rfl, if_neg (by omega)] at hs
  by_cases hc : 100 ≤ g.d.ep
  · rw [if_pos hc] at hs
    injection hs with e1 e2
    subst e1 e2
    have := h.fam.ok.ep
    exact ⟨h, rfl, rfl, fun _ => by omega, fun e => by cases e⟩
  · rw [if_neg hc] at hs
    injection hs with e1 e2
    subst e1 e2
    refine ⟨hok, rfl, rfl, fun e => absurd rfl e, fun _ => ?_⟩
    have hf : found g.d = l := h.wh.found
    simp [putN, hf]
theorem step_down {g : Gld} {l : List Rec} (h : g.Ok l) {n : Nat} (hn : n < 3) (kp : Int) (o : Ord) {nd : Nod} (hf : g.f n = some nd) {g' : Gld} {a : Ans} (hs : g.step ⟨4, n, kp, o⟩ = (g', a)) :
    g'.Ok l ∧ g'.f n = some ⟨nd.t, nd.ep, true⟩ := by
  obtain ⟨l', s⟩ := step_ok h ⟨4, n, kp, o⟩
  rw [hs] at s
  have hl : l' = l := by
    rcases s.grew with e | ⟨m, h1, _⟩
    · exact e
    · dsimp only at h1; omega
  rw [hl] at s
  have hok := s.ok
  unfold Gld.step at hs
  dsimp only at hs hok
  rw [if_neg (by decide), if_neg (by decide), if_pos (by decide), nod_at hn, hf] at hs
  dsimp only at hs
  rw [if_neg (by decide), if_neg (by decide)] at hs
  injection hs with e1 e2
  subst e1 e2
  exact ⟨hok, by simp [putN]⟩
theorem step_isdown {g : Gld} {l : List Rec} (h : g.Ok l) {n : Nat} (hn : n < 3) (kp : Int) (o : Ord) {nd : Nod} (hf : g.f n = some nd) (hd : nd.down = true) {g' : Gld} {a : Ans} (hs : g.step ⟨2, n, kp, o⟩ = (g', a)) :
    g'.Ok l ∧ a = ⟨10, 0, 0⟩ := by
  have ha : a = ⟨10, 0, 0⟩ := by
    have hs2 := hs
    unfold Gld.step at hs2
    dsimp only at hs2
    rw [if_neg (by decide), if_neg (by decide), if_pos (by decide), nod_at hn, hf] at hs2
    dsimp only at hs2
    rw [if_pos rfl] at hs2
    unfold Nod.order at hs2
    rw [if_pos hd] at hs2
    injection hs2 with e1 e2
    exact e2.symm
  obtain ⟨l', s⟩ := step_ok h ⟨2, n, kp, o⟩
  rw [hs] at s
  have hl : l' = l := (s.code rfl (by rw [ha]; simp)).1
  rw [hl] at s
  exact ⟨s.ok, ha⟩
/-- What stands on a guild's disk. -/
theorem rising_get : ∀ {l : List Rec} {e : Int} {i : Nat} {r : Rec}, Rising e l → l[i]? = some r → lastE e (l.take i) ≤ r.ep ∧ chkR r = 0 ∧ lastE e (l.take (i + 1)) = r.ep
  | [], _, _, _, _, h => by simp at h
  | q :: l, e, 0, r, ⟨a, b, c⟩, h => by
    simp at h
    subst h
    exact ⟨b, a, by simp [lastE]⟩
  | q :: l, e, i + 1, r, ⟨a, b, c⟩, h => by
    simp only [List.getElem?_cons_succ] at h
    obtain ⟨h1, h2, h3⟩ := rising_get c h
    simp only [List.take_succ_cons, lastE]
    exact ⟨h1, h2, h3⟩
def lastOf (l : List Rec) (i : Nat) : Int := max 1 (lastE 0 (l.take i))
theorem lastOf_zero (l : List Rec) : lastOf l 0 = 1 := by show max 1 (lastE 0 (l.take 0)) = 1; rw [List.take_zero]; rfl
theorem lastOf_step {d : Dsk} {l : List Rec} (h : Whole d l) {i : Nat} {r : Rec} (hr : l[i]? = some r) : lastOf l i ≤ r.ep ∧ r.ep ≤ d.ep ∧ lastOf l (i + 1) = r.ep := by
  obtain ⟨h1, h2, h3⟩ := rising_get h.rising hr
  have h4 := (chkR_range h2).1
  have h5 := h.le r (List.mem_of_getElem? hr)
  unfold lastOf
  omega
theorem done_get {t : Tbl} {l : List Rec} (h : Done t l) {i : Nat} {r : Rec} (hr : l[i]? = some r) : ((runL t (l.take i)).did r.o).2.code = 0 := by
  have h1 := evs_get t l i r hr
  have h2 := done_codes h (evOf (runL t (l.take i)) r) (List.mem_of_getElem? h1)
  exact h2
/-- The one that serves has what the disk tells. -/
theorem serves_tells {g : Gld} {l : List Rec} (h : g.Ok l) {n : Nat} {nd : Nod} (hf : g.f n = some nd) (he : nd.ep = g.d.ep) (hd : nd.down = false) : nd.t = behind l :=
  ((h.fam.sv n nd hf).2.2 he hd).2
theorem holders_zero (l : List Rec) {k : Nat} (hk : k < 6) : ((holders (evs Tbl.zero l) k).length : Int) = ((behind l).jobs k).tr ∧ ∀ (i : Nat) p, (holders (evs Tbl.zero l) k)[i]? = some p → p.2 = i + 1 := by
  obtain ⟨h1, h2⟩ := holders_tr l Tbl.zero k hk Tbl.zero_in
  have e : (Tbl.zero.jobs k).tr = 0 := rfl
  rw [e] at h1 h2
  refine ⟨by unfold behind; omega, fun i p hp => ?_⟩
  have := h2 i p hp
  omega
/-- The events of the first bytes. -/
theorem evs_parts (b : List UInt8) (k : Nat) : evs Tbl.zero (allB (b.take k)) = (evs Tbl.zero (allB b)).take (k / 9) := by rw [allB_take, evs_take]
end Go.Proofs.YtfihmpkkpgmdhaaGreatDoor

/-
  The words of a line, its numbers, what it asks for: plain definitions and laws, no program in sight.
-/
namespace Go.Proofs.YtfihmpkkpgmdhaaGreatDoor
open Go

/-- What stands between the bytes c. -/
def pieces (c : UInt8) : List UInt8 → List (List UInt8)
  | [] => [[]]
  | b :: l => if b = c then [] :: pieces c l else match pieces c l with
    | [] => [[b]]
    | p :: r => (b :: p) :: r
theorem pieces_ne (c : UInt8) (l : List UInt8) : ∃ p r, pieces c l = p :: r := by
  cases l with
  | nil => exact ⟨_, _, rfl⟩
  | cons b l =>
    unfold pieces
    split
    · exact ⟨_, _, rfl⟩
    · split <;> exact ⟨_, _, rfl⟩
theorem splitK_pieces (c : UInt8) : ∀ l : List UInt8, Lib.splitK [c] 0 (Lib.count l [c]) l = pieces c l
  | [] => by rw [Lib.count_miss (by simp [Lib.index])]; rfl
  | b :: l => by
    have ih := splitK_pieces c l
    by_cases h : b = c
    · subst h
      have hix : Lib.index (b :: l) [b] = ((0 : Nat) : Int) := by rw [Lib.index]; simp [List.isPrefixOf]
      rw [Lib.count_cons_eq, Nat.add_comm, Lib.splitK, hix, if_neg (by decide)]
      unfold pieces
      rw [if_pos rfl, ← ih]
      rfl
    · have hp : ([c] : List UInt8).isPrefixOf (b :: l) = false := by simp [List.isPrefixOf, Ne.symm h]
      have hix : Lib.index (b :: l) [c] = if Lib.index l [c] == -1 then -1 else Lib.index l [c] + 1 := by rw [Lib.index, hp]; simp
      rw [Lib.count_cons_ne b c l h]
      unfold pieces
      rw [if_neg h, ← ih]
      cases hk : Lib.count l [c] with
      | zero => rfl
      | succ k =>
        have hm : Lib.index l [c] ≠ -1 := fun e => by rw [Lib.count_miss e] at hk; cases hk
        have hge := Lib.index_ge l [c]
        obtain ⟨i, hi⟩ : ∃ i : Nat, Lib.index l [c] = i := ⟨(Lib.index l [c]).toNat, by omega⟩
        have hb : Lib.index (b :: l) [c] = ((i + 1 : Nat) : Int) := by rw [hix, if_neg (fun e => hm (beq_iff_eq.1 e)), hi]; omega
        have n1 : ¬ (((i + 1 : Nat) : Int) == -1) = true := fun e => by have := beq_iff_eq.1 e; omega
        have n2 : ¬ ((i : Int) == -1) = true := fun e => by have := beq_iff_eq.1 e; omega
        rw [Lib.splitK, Lib.splitK, hb, hi, if_neg n1, if_neg n2]
        simp [Int.toNat]
def wordsFrom (w : List UInt8) : List UInt8 → List (List UInt8)
  | [] => if w = [] then [] else [w]
  | b :: l => if b = 32 then (if w = [] then wordsFrom [] l else w :: wordsFrom [] l) else wordsFrom (w ++ [b]) l
def words (l : List UInt8) : List (List UInt8) := wordsFrom [] l
theorem words_from : ∀ (l w : List UInt8) (p : List UInt8) (r : List (List UInt8)), pieces 32 l = p :: r → wordsFrom w l = ((w ++ p) :: r).filter fun x => !decide (x = [])
  | [], w, p, r, h => by
    unfold pieces at h
    injection h with h1 h2
    subst h1; subst h2
    unfold wordsFrom
    by_cases hw : w = [] <;> simp [hw]
  | b :: l, w, p, r, h => by
    obtain ⟨p', r', hp⟩ := pieces_ne 32 l
    unfold pieces at h
    rw [hp] at h
    unfold wordsFrom
    by_cases hb : b = 32
    · rw [if_pos hb] at h ⊢
      injection h with h1 h2
      subst h1; subst h2
      rw [words_from l [] p' r' hp]
      by_cases hw : w = [] <;> simp [hw]
    · rw [if_neg hb] at h ⊢
      injection h with h1 h2
      subst h1; subst h2
      rw [words_from l (w ++ [b]) p' r' hp]
      simp
theorem words_eq (l : List UInt8) : (pieces 32 l).filter (fun x => !decide (x = [])) = words l := by
  obtain ⟨p, r, hp⟩ := pieces_ne 32 l
  rw [words, words_from l [] p r hp, hp, List.nil_append]
theorem words_split (l : List UInt8) : (Lib.splitK [32] 0 (Lib.count l [32]) l).filter (fun x => !decide (x = [])) = words l := by rw [splitK_pieces, words_eq]
theorem words_ne (l : List UInt8) : ∀ x ∈ words l, x ≠ [] := fun x hx => by
  rw [← words_eq] at hx
  simpa using (List.mem_filter.1 hx).2
theorem pieces_len (c : UInt8) : ∀ l : List UInt8, (pieces c l).length ≤ l.length + 1 ∧ ∀ x ∈ pieces c l, x.length ≤ l.length
  | [] => ⟨Nat.le_refl _, fun x hx => by have : x = [] := by simpa [pieces] using hx
                                         subst this; exact Nat.le_refl _⟩
  | b :: l => by
    have ih := pieces_len c l
    obtain ⟨p, r, hp⟩ := pieces_ne c l
    unfold pieces
    rw [hp] at ih ⊢
    split
    · refine ⟨by have := ih.1; simp at this ⊢; omega, fun x hx => ?_⟩
      rcases List.mem_cons.1 hx with rfl | hx
      · simp
      · have := ih.2 x hx; simp; omega
    · refine ⟨by have := ih.1; simp at this ⊢; omega, fun x hx => ?_⟩
      rcases List.mem_cons.1 hx with rfl | hx
      · have := ih.2 p (List.mem_cons_self ..); simp; omega
      · have := ih.2 x (List.mem_cons_of_mem _ hx); simp; omega
theorem words_len (l : List UInt8) : (words l).length ≤ l.length + 1 := by
  rw [← words_eq]
  exact Nat.le_trans (List.length_filter_le _ _) (pieces_len 32 l).1
theorem words_size (l : List UInt8) : ∀ x ∈ words l, x.length ≤ l.length := fun x hx => by
  rw [← words_eq] at hx
  exact (pieces_len 32 l).2 x (List.mem_filter.1 hx).1

/-- A number, as short as can be. -/
def numOf (s : List UInt8) : Option Int := match Lib.atoiAll s with
  | .ok v => if Lib.itoa v = s then some v else none
  | _ => none
def numsOf : List (List UInt8) → Option (List Int)
  | [] => some []
  | s :: l => match numOf s, numsOf l with
    | some v, some r => some (v :: r)
    | _, _ => none
theorem numsOf_snoc : ∀ {l : List (List UInt8)} {r : List Int} {s : List UInt8} {v : Int}, numsOf l = some r → numOf s = some v → numsOf (l ++ [s]) = some (r ++ [v])
  | [], r, s, v, h, hv => by
    injection h with h
    subst h
    simp [numsOf, hv]
  | a :: l, r, s, v, h, hv => by
    unfold numsOf at h
    split at h
    · rename_i x y h1 h2
      injection h with h
      subst h
      have := numsOf_snoc h2 hv
      simp [numsOf, h1, this]
    · cases h
theorem numsOf_bad : ∀ {l : List (List UInt8)} {s : List UInt8}, s ∈ l → numOf s = none → numsOf l = none
  | [], s, h, _ => by cases h
  | a :: l, s, h, hs => by
    rcases List.mem_cons.1 h with rfl | h
    · unfold numsOf; simp [hs]
    · have := numsOf_bad h hs
      unfold numsOf; simp [this]
theorem numsOf_len : ∀ {l : List (List UInt8)} {r : List Int}, numsOf l = some r → r.length = l.length
  | [], r, h => by injection h with h; subst h; rfl
  | a :: l, r, h => by
    unfold numsOf at h
    split at h
    · rename_i x y h1 h2
      injection h with h
      subst h
      simp [numsOf_len h2]
    · cases h
theorem atoi_bound {s : List UInt8} {v : Int} (h : Lib.atoiAll s = .ok v) : -9223372036854775808 ≤ v ∧ v ≤ 9223372036854775807 := by
  unfold Lib.atoiAll at h
  split at h
  · cases h
  · simp only at h
    split at h
    · cases h
    · cases h
    · split at h
      · cases h
      · split at h
        · cases h
        · injection h with h
          subst h
          split <;> omega
theorem numOf_bound {s : List UInt8} {v : Int} (h : numOf s = some v) : -9223372036854775808 ≤ v ∧ v ≤ 9223372036854775807 := by
  unfold numOf at h
  split at h
  · rename_i x hx
    split at h
    · injection h with h; subst h; exact atoi_bound hx
    · cases h
  · cases h
theorem numsOf_bound : ∀ {l : List (List UInt8)} {r : List Int}, numsOf l = some r → ∀ n ∈ r, -9223372036854775808 ≤ n ∧ n ≤ 9223372036854775807
  | [], r, h => by injection h with h; subst h; intro n hn; cases hn
  | a :: l, r, h => by
    unfold numsOf at h
    split at h
    · rename_i x y h1 h2
      injection h with h
      subst h
      intro n hn
      rcases List.mem_cons.1 hn with rfl | hn
      · exact numOf_bound h1
      · exact numsOf_bound h2 n hn
    · cases h
end Go.Proofs.YtfihmpkkpgmdhaaGreatDoor

/-
  What a line asks for and what is told: plain definitions and laws, no program in sight.
-/
namespace Go.Proofs.YtfihmpkkpgmdhaaGreatDoor
set_option linter.unusedVariables false
open Go

def tAdd : List UInt8 := [97, 100, 100]
def tTake : List UInt8 := [116, 97, 107, 101]
def tRenew : List UInt8 := [114, 101, 110, 101, 119]
def tDone : List UInt8 := [100, 111, 110, 101]
def tDrop : List UInt8 := [100, 114, 111, 112]
def tOpen : List UInt8 := [111, 112, 101, 110]
def tDown : List UInt8 := [100, 111, 119, 110]
def tTick : List UInt8 := [116, 105, 99, 107]
def tTear : List UInt8 := [116, 101, 97, 114]
def tJob : List UInt8 := [106, 111, 98]
def tDisk : List UInt8 := [100, 105, 115, 107]
def tLog : List UInt8 := [108, 111, 103]
def tHolders : List UInt8 := [104, 111, 108, 100, 101, 114, 115]
def tWhat : List UInt8 := [119, 104, 97, 116]
def tNo : List UInt8 := [110, 111]
def tOk : List UInt8 := [111, 107]
def tRecord : List UInt8 := [114, 101, 99, 111, 114, 100]
def tEnd : List UInt8 := [101, 110, 100]

/-- What a line asks for. -/
inductive Req where
  | nothing
  | what
  | step (x : Stp) (take : Bool)
  | job (n j : Int)
  | disk
  | log
  | holders (j : Int)

def orderOf (w : List UInt8) (n : List Int) : Option Ord :=
  if w = tAdd then (match n with
    | [j] => some ⟨1, 0, j, 0, 0, 0⟩
    | _ => none)
  else if w = tTake then (match n with
    | [k, m] => some ⟨2, 0, 0, 0, k, m⟩
    | _ => none)
  else if w = tRenew then (match n with
    | [j, r, k, m] => some ⟨3, 0, j, r, k, m⟩
    | _ => none)
  else if w = tDone then (match n with
    | [j, r, k] => some ⟨4, 0, j, r, k, 0⟩
    | _ => none)
  else if w = tDrop then (match n with
    | [j, r, k] => some ⟨5, 0, j, r, k, 0⟩
    | _ => none)
  else none

/-- The numbers of an order that is torn, or not. -/
def nodeReq : List (List UInt8) → Option (Stp × Bool)
  | [] => none
  | w :: r =>
    if w = tTear then (match r with
      | [] => none
      | a :: q => match numOf a with
        | none => none
        | some k => match q with
          | [] => none
          | v :: u => match numsOf u with
            | some (n :: m) => (orderOf v m).map fun o => (⟨3, n, k, o⟩, false)
            | _ => none)
    else match numsOf r with
      | some (n :: m) => (orderOf w m).map fun o => (⟨2, n, 0, o⟩, decide (o.kind = 2))
      | _ => none
def stepReq (w : List UInt8) (n : List Int) : Option Stp :=
  match n with
  | [a] => if w = tOpen then some ⟨1, a, 0, Ord.zero⟩ else if w = tDown then some ⟨4, a, 0, Ord.zero⟩ else if w = tTick then some ⟨5, a, 0, Ord.zero⟩ else none
  | _ => none
def askReq (w : List UInt8) (n : List Int) : Req :=
  match n with
  | [] => if w = tDisk then .disk else if w = tLog then .log else .what
  | [a] => if w = tHolders then .holders a else .what
  | [a, b] => if w = tJob then .job a b else .what
  | _ => .what
def reqOf : List (List UInt8) → Req
  | [] => .nothing
  | w :: r => match nodeReq (w :: r) with
    | some x => .step x.1 x.2
    | none => match numsOf r with
      | none => .what
      | some n => match stepReq w n with
        | some x => .step x false
        | none => askReq w n

/-- Numbers, each behind a blank. -/
def nums (l : List Int) : List UInt8 := l.flatMap fun n => 32 :: Lib.itoa n
def line (l : List UInt8) : List UInt8 := l ++ [10]
def ansTxt (a : Ans) (take : Bool) : List UInt8 := if a.code ≠ 0 then tNo ++ nums [a.code] else if take then tOk ++ nums [a.job, a.tr] else tOk
def jobTxt (j : Job) : List UInt8 := nums [j.st, j.wk, j.tr, j.un]
def evTxt (e : Ev) : List UInt8 := tRecord ++ nums [e.r.ep, e.r.o.kind, e.r.o.now, e.r.o.job, e.r.o.tr, e.r.o.wk, e.r.o.tm] ++ (32 :: tJob) ++ jobTxt e.j
def logTxt (l : List Ev) : List UInt8 := l.flatMap fun e => line (evTxt e)
/-- What is told, and the guild behind it. -/
def tell (g : Gld) : Req → Gld × List UInt8
  | .nothing => (g, [])
  | .what => (g, line tWhat)
  | .step x take => ((g.step x).1, line (ansTxt (g.step x).2 take))
  | .job n j => (g, line (match g.nod n with
    | none => tNo ++ nums [5]
    | some nd => tJob ++ jobTxt (nd.t.job j)))
  | .disk => (g, line (tDisk ++ nums [g.d.ep, g.d.b.length, g.now]))
  | .log => (g, logTxt (evs Tbl.zero (allB g.d.b)) ++ line tEnd)
  | .holders j => (g, line (tHolders ++ nums ((holders (evs Tbl.zero (allB g.d.b)) j).flatMap fun p => [p.1, p.2])))
def tellL (g : Gld) (s : List UInt8) : Gld × List UInt8 := tell g (reqOf (words s))
def tells : Gld → List (List UInt8) → Gld × List UInt8
  | g, [] => (g, [])
  | g, s :: l => ((tells (tellL g s).1 l).1, (tellL g s).2 ++ (tells (tellL g s).1 l).2)
theorem tells_append (g : Gld) (l m : List (List UInt8)) : tells g (l ++ m) = ((tells (tells g l).1 m).1, (tells g l).2 ++ (tells (tells g l).1 m).2) := by
  induction l generalizing g with
  | nil => rfl
  | cons s l ih => simp only [List.cons_append, tells, ih, List.append_assoc]
theorem tells_snoc (g : Gld) (l : List (List UInt8)) (s : List UInt8) : tells g (l ++ [s]) = ((tellL (tells g l).1 s).1, (tells g l).2 ++ (tellL (tells g l).1 s).2) := by
  rw [tells_append]
  simp [tells]

/-- A number that is no great one. -/
def Sm (n : Int) : Prop := 0 ≤ n ∧ n ≤ 100000
theorem Sm.big {n : Int} (h : Sm n) : -9223372036854775808 ≤ n ∧ n ≤ 9223372036854775807 := by unfold Sm at h; omega
theorem nums_len : ∀ {l : List Int}, (∀ n ∈ l, Sm n) → (nums l).length ≤ 22 * l.length
  | [], _ => Nat.le_refl _
  | n :: l, h => by
    have h1 := (h n (List.mem_cons_self ..)).big
    have h2 := Lib.itoa_length_le n h1.1 h1.2
    have ih := nums_len (l := l) fun x hx => h x (List.mem_cons_of_mem _ hx)
    unfold nums at ih ⊢
    simp only [List.flatMap_cons, List.length_append, List.length_cons]
    omega
theorem nums_cons (n : Int) (l : List Int) : nums (n :: l) = 32 :: Lib.itoa n ++ nums l := rfl
theorem nums_append (l m : List Int) : nums (l ++ m) = nums l ++ nums m := List.flatMap_append ..

structure Ans.Sm (a : Ans) : Prop where
  code : YtfihmpkkpgmdhaaGreatDoor.Sm a.code
  job : YtfihmpkkpgmdhaaGreatDoor.Sm a.job
  tr : YtfihmpkkpgmdhaaGreatDoor.Sm a.tr
theorem sm_lit {n : Int} (h0 : 0 ≤ n) (h1 : n ≤ 100000) : Sm n := ⟨h0, h1⟩
theorem code_small {c : Int} (h0 : 0 ≤ c) (h1 : c ≤ 10) : (⟨c, 0, 0⟩ : Ans).Sm := ⟨sm_lit h0 (by show c ≤ 100000; omega), sm_lit (n := 0) (by decide) (by decide), sm_lit (n := 0) (by decide) (by decide)⟩
theorem chk_small (o : Ord) : Sm (chk o) := by unfold chk Sm; (repeat' split) <;> omega
theorem act_small {t : Tbl} (h : t.Ok) (o : Ord) : (t.act o).2.Sm := by
  unfold Tbl.act
  split
  · split
    · rename_i i hi
      have h1 := firstW_spec _ _ _ hi
      have h2 := (h.jobs i).tr
      exact ⟨sm_lit (n := 0) (by decide) (by decide), ⟨by show (0 : Int) ≤ (i : Int); omega, by show (i : Int) ≤ 100000; omega⟩, ⟨by show 0 ≤ (t.jobs i).tr + 1; omega, by show (t.jobs i).tr + 1 ≤ 100000; omega⟩⟩
    · exact code_small (by decide) (by decide)
  · simp only
    (repeat' split) <;> exact code_small (by decide) (by decide)
theorem did_small {t : Tbl} (h : t.Ok) (o : Ord) : (t.did o).2.Sm := by
  by_cases hc : chk o = 0
  · have hp : (t.pass o.now).Ok := pass_ok h (chk_now hc).2
    have ha := act_small hp o
    unfold Tbl.did
    rw [if_neg (by simpa using hc)]
    simp only
    split <;> exact ha
  · rw [did_no hc]
    exact ⟨chk_small o, sm_lit (n := 0) (by decide) (by decide), sm_lit (n := 0) (by decide) (by decide)⟩
theorem append_code (d : Dsk) (e : Int) (m : List UInt8) : 0 ≤ (d.append e m).2 ∧ (d.append e m).2 ≤ 10 := by
  unfold Dsk.append
  (repeat' split) <;> simp
theorem order_small (d : Dsk) {n : Nod} (h : n.t.Ok) (o : Ord) (k : Nat) : (n.order d o k).2.2.Sm := by
  unfold Nod.order
  (repeat' split)
  · exact code_small (by decide) (by decide)
  · exact code_small (by decide) (by decide)
  · exact did_small h o
  · exact code_small (append_code ..).1 (append_code ..).2
  · exact did_small h o
theorem tear_small (d : Dsk) {n : Nod} (h : n.t.Ok) (o : Ord) (k : Nat) : Sm (n.tear d o k).2.2 := by
  have := (order_small d h o k).code
  unfold Nod.tear
  simp only
  split <;> exact this
theorem Gld.Ok.nodOk {g : Gld} {l : List Rec} (h : g.Ok l) {x : Int} {n : Nod} (hn : g.nod x = some n) : n.t.Ok := by
  obtain ⟨_, hf, _⟩ := nod_some hn
  exact (h.fam.sv _ _ hf).2.1.ok
theorem step_small {g : Gld} {l : List Rec} (h : g.Ok l) (x : Stp) : (g.step x).2.Sm := by
  unfold Gld.step
  split
  · (repeat' split) <;> exact code_small (by decide) (by decide)
  · split
    · (repeat' split) <;> exact code_small (by decide) (by decide)
    · split
      · split
        · exact code_small (by decide) (by decide)
        · rename_i n hn
          have hk := h.nodOk hn
          split
          · exact order_small _ hk _ _
          · split
            · exact ⟨tear_small _ hk _ _, sm_lit (n := 0) (by decide) (by decide), sm_lit (n := 0) (by decide) (by decide)⟩
            · exact code_small (by decide) (by decide)
      · exact code_small (by decide) (by decide)
theorem job_small {t : Tbl} (h : t.Ok) (n : Int) : ∀ x ∈ [(t.job n).st, (t.job n).wk, (t.job n).tr, (t.job n).un], Sm x := by
  have k : (t.job n).Ok := by
    unfold Tbl.job
    split
    · exact h.jobs _
    · exact (Tbl.zero_ok).jobs 0
  have h1 := k.st; have h2 := k.wk; have h3 := k.tr; have h4 := k.un
  intro x hx
  simp only [List.mem_cons, List.mem_nil_iff, or_false] at hx
  unfold Sm
  rcases hx with rfl | rfl | rfl | rfl <;> omega
def Job.ints (j : Job) : List Int := [j.st, j.wk, j.tr, j.un]
theorem allFrom_chk : ∀ (n : Nat) (e : Int) (l : List UInt8), ∀ r ∈ allFrom n e l, chkR r = 0
  | 0, _, _, r, h => by cases h
  | n + 1, e, l, r, h => by
    unfold allFrom at h
    split at h
    · cases h
    · rename_i hc
      rcases List.mem_cons.1 h with rfl | h
      · exact (encB_decB (by omega)).1
      · exact allFrom_chk n _ _ r h
theorem rec_small {r : Rec} (h : chkR r = 0) : ∀ x ∈ [r.ep, r.o.kind, r.o.now, r.o.job, r.o.tr, r.o.wk, r.o.tm], Sm x := by
  have h1 := chkR_range h
  have h2 := chk_range h1.2
  intro x hx
  simp only [List.mem_cons, List.mem_nil_iff, or_false] at hx
  unfold Sm
  rcases hx with rfl | rfl | rfl | rfl | rfl | rfl | rfl <;> omega
/-- An event with numbers that are no great ones. -/
structure Ev.Sm (e : Ev) : Prop where
  r : ∀ x ∈ [e.r.ep, e.r.o.kind, e.r.o.now, e.r.o.job, e.r.o.tr, e.r.o.wk, e.r.o.tm], YtfihmpkkpgmdhaaGreatDoor.Sm x
  a : e.a.Sm
  j : ∀ x ∈ [e.j.st, e.j.wk, e.j.tr, e.j.un], YtfihmpkkpgmdhaaGreatDoor.Sm x
theorem evs_small : ∀ {l : List Rec} {t : Tbl}, t.In → (∀ r ∈ l, chkR r = 0) → ∀ e ∈ evs t l, e.Sm
  | [], _, _, _, e, h => by cases h
  | r :: l, t, ht, hl, e, h => by
    rcases List.mem_cons.1 h with rfl | h
    · refine ⟨rec_small (hl r (List.mem_cons_self ..)), did_small ht.ok _, ?_⟩
      unfold evOf
      simp only
      split
      · exact job_small (did_in ht _).ok _
      · intro x hx
        simp [Job.zero] at hx
        subst hx
        exact sm_lit (n := 0) (by decide) (by decide)
    · exact evs_small (did_in ht _) (fun q hq => hl q (List.mem_cons_of_mem _ hq)) e h
theorem disk_evs (b : List UInt8) : ∀ e ∈ evs Tbl.zero (allB b), e.Sm := evs_small Tbl.zero_in (allFrom_chk _ _ _)
theorem disk_evs_len {b : List UInt8} (h : b.length ≤ 1500) : (evs Tbl.zero (allB b)).length ≤ 166 := by
  rw [evs_len]
  have := allB_len b
  omega
theorem evTxt_len {e : Ev} (h : e.Sm) : (evTxt e).length ≤ 260 := by
  have h1 := nums_len h.r
  have h2 := nums_len h.j
  unfold evTxt jobTxt
  simp only [List.length_append, List.length_cons, tRecord, tJob, List.length_nil] at h1 h2 ⊢
  omega
theorem logTxt_cons (e : Ev) (l : List Ev) : logTxt (e :: l) = line (evTxt e) ++ logTxt l := rfl
theorem line_len (l : List UInt8) : (line l).length = l.length + 1 := by simp [line]
theorem logTxt_len : ∀ {l : List Ev}, (∀ e ∈ l, e.Sm) → (logTxt l).length ≤ 261 * l.length
  | [], _ => Nat.le_refl _
  | e :: l, h => by
    have h1 := evTxt_len (h e (List.mem_cons_self ..))
    have ih := logTxt_len (l := l) fun x hx => h x (List.mem_cons_of_mem _ hx)
    rw [logTxt_cons, List.length_append, line_len, List.length_cons]
    omega
theorem logTxt_snoc (l : List Ev) (e : Ev) : logTxt (l ++ [e]) = logTxt l ++ line (evTxt e) := by simp [logTxt]
theorem holders_small {l : List Ev} (h : ∀ e ∈ l, e.Sm) (j : Int) : ∀ p ∈ holders l j, Sm p.1 ∧ Sm p.2 := fun p hp => by
  unfold holders at hp
  obtain ⟨e, he, rfl⟩ := List.mem_map.1 hp
  have h1 := h e (List.mem_filter.1 he).1
  exact ⟨h1.r _ (by simp), h1.a.tr⟩
theorem holders_len (l : List Ev) (j : Int) : (holders l j).length ≤ l.length := by
  unfold holders
  rw [List.length_map]
  exact List.length_filter_le _ _
def flat2 (l : List (Int × Int)) : List Int := l.flatMap fun p => [p.1, p.2]
theorem flat2_small {l : List (Int × Int)} (h : ∀ p ∈ l, Sm p.1 ∧ Sm p.2) : ∀ n ∈ flat2 l, Sm n := fun n hn => by
  obtain ⟨p, hp, hx⟩ := List.mem_flatMap.1 hn
  have := h p hp
  simp only [List.mem_cons, List.mem_nil_iff, or_false] at hx
  rcases hx with rfl | rfl
  · exact this.1
  · exact this.2
theorem flat2_len (l : List (Int × Int)) : (flat2 l).length = 2 * l.length := by
  induction l with
  | nil => rfl
  | cons p l ih => unfold flat2 at ih ⊢; simp only [List.flatMap_cons, List.length_append, ih, List.length_cons, List.length_nil]; omega
theorem ansTxt_len {a : Ans} (h : a.Sm) (take : Bool) : (ansTxt a take).length ≤ 100 := by
  have h1 : (nums [a.code]).length ≤ 22 := nums_len (by intro x hx; simp at hx; subst hx; exact h.code)
  have h2 : (nums [a.job, a.tr]).length ≤ 44 := nums_len (by intro x hx; simp at hx; rcases hx with rfl | rfl; exact h.job; exact h.tr)
  unfold ansTxt
  (repeat' split) <;> simp only [List.length_append, tNo, tOk, List.length_cons, List.length_nil] <;> omega
/-- What one line tells is no long text. -/
theorem tell_len {g : Gld} {l : List Rec} (h : g.Ok l) (q : Req) : (tell g q).2.length ≤ 50000 := by
  have hb := h.fam.ok.b
  have hE := disk_evs g.d.b
  have hL := disk_evs_len hb
  unfold tell
  split
  · exact Nat.zero_le _
  · simp [line, tWhat]
  · have := ansTxt_len (step_small h ‹Stp›) ‹Bool›
    simp only [line, List.length_append, List.length_cons, List.length_nil]
    omega
  · split
    · have h5 : (nums [5]).length ≤ 22 := nums_len (by intro x hx; simp at hx; subst hx; exact ⟨by decide, by decide⟩)
      simp only [line, List.length_append, List.length_cons, List.length_nil, tNo]
      omega
    · rename_i n j o nd hn
      have hj : (jobTxt (nd.t.job j)).length ≤ 88 := nums_len (job_small (h.nodOk hn) j)
      simp only [line, List.length_append, List.length_cons, List.length_nil, tJob]
      omega
  · have h1 := h.fam.ok.ep
    have h2 := h.now
    have h3 : (nums [g.d.ep, g.d.b.length, g.now]).length ≤ 66 := nums_len (by
      intro x hx
      simp only [List.mem_cons, List.mem_nil_iff, or_false] at hx
      unfold Sm
      rcases hx with rfl | rfl | rfl <;> omega)
    simp only [line, List.length_append, List.length_cons, List.length_nil, tDisk]
    omega
  · have := logTxt_len hE
    simp only [line, List.length_append, List.length_cons, List.length_nil, tEnd]
    omega
  · rename_i j
    have h1 := nums_len (flat2_small (holders_small hE j))
    have h2 := flat2_len (holders (evs Tbl.zero (allB g.d.b)) j)
    have h3 := holders_len (evs Tbl.zero (allB g.d.b)) j
    unfold flat2 at h1 h2
    simp only [line, List.length_append, List.length_cons, List.length_nil, tHolders]
    omega
theorem tell_good {g : Gld} (h : ∃ l, g.Ok l) (q : Req) : ∃ l, (tell g q).1.Ok l := by
  cases q with
  | step x take => obtain ⟨l, h⟩ := h; obtain ⟨l', hs⟩ := step_ok h x; exact ⟨l', hs.ok⟩
  | _ => exact h
theorem tells_good : ∀ {g : Gld} (l : List (List UInt8)), (∃ r, g.Ok r) → ∃ r, (tells g l).1.Ok r
  | _, [], h => h
  | _, _ :: l, h => tells_good l (tell_good h _)
theorem tells_len : ∀ {g : Gld} (l : List (List UInt8)), (∃ r, g.Ok r) → (tells g l).2.length ≤ 50000 * l.length
  | _, [], _ => Nat.le_refl _
  | g, s :: l, h => by
    have ih := tells_len l (tell_good h (reqOf (words s)))
    obtain ⟨r, hr⟩ := h
    have h1 := tell_len hr (reqOf (words s))
    unfold tells tellL
    simp only [List.length_append, List.length_cons]
    omega
end Go.Proofs.YtfihmpkkpgmdhaaGreatDoor

/-
  What stands in memory: a table of jobs. Small facts on worlds.
-/
namespace Go.Proofs.YtfihmpkkpgmdhaaGreatDoor
open Go.RowKit

def jcells (j : Job) : List Value := [.int .i64 j.st, .int .i64 j.wk, .int .i64 j.tr, .int .i64 j.un]
def tcells (t : Tbl) : List Value := jcells (t.jobs 0) ++ (jcells (t.jobs 1) ++ (jcells (t.jobs 2) ++ (jcells (t.jobs 3) ++ (jcells (t.jobs 4) ++ (jcells (t.jobs 5) ++ [.int .i64 t.now])))))
def Job.val (j : Job) : Value := .agg (jcells j).toArray
def Ans.val (a : Ans) : Value := .agg #[.int .i64 a.code, .int .i64 a.job, .int .i64 a.tr]

/-- Block b holds these cells, of this type; none is frozen. -/
def BlockAt (w : World) (b : Nat) (ty : TypeId) (cs : List Value) : Prop := w.heap[b]? = some (.cells cs.toArray ty (0, 0))

def TableAt (w : World) (b : Nat) (t : Tbl) : Prop := BlockAt w b 146 (tcells t)

theorem BlockAt.lt {w : World} {b : Nat} {ty : TypeId} {cs : List Value} (h : BlockAt w b ty cs) : b < w.heap.size :=
  (Array.getElem?_eq_some_iff.1 h).1
theorem BlockAt.cell {w : World} {b : Nat} {ty : TypeId} {cs : List Value} (h : BlockAt w b ty cs) (o : Nat) (v : Value) (hv : cs[o]? = some v) : w.cell? ⟨b, o, none⟩ = some v := by
  unfold BlockAt at h
  simp [World.cell?, h, hv]
theorem BlockAt.free {w : World} {b : Nat} {ty : TypeId} {cs : List Value} (h : BlockAt w b ty cs) (o : Nat) : w.frozen? ⟨b, o, none⟩ = false := by
  unfold BlockAt at h
  simp [World.frozen?, h]
theorem BlockAt.set {w : World} {b : Nat} {ty : TypeId} {cs : List Value} (h : BlockAt w b ty cs) (o : Nat) (v : Value) : BlockAt (w.setCell ⟨b, o, none⟩ v) b ty (cs.set o v) := by
  unfold BlockAt at *
  simp only [World.setCell, Array.getElem?_modify, if_true, h]
  simp
theorem BlockAt.other {w w' : World} {b : Nat} {ty : TypeId} {cs : List Value} {row : Option Nat} (h : BlockAt w b ty cs) (hg : w.grownBy w' row) (hne : some b ≠ row) : BlockAt w' b ty cs := by
  have hb := hg.block b h.lt hne
  unfold BlockAt at *
  rw [hb]; exact h
theorem BlockAt.new (w : World) (ty : TypeId) (cs : List Value) : BlockAt (w.alloc (.cells cs.toArray ty)) w.heap.size ty cs := heap_alloc_new w _
/-- Blocks of two types are two. -/
theorem BlockAt.ne {w : World} {b b' : Nat} {ty ty' : TypeId} {cs cs' : List Value} (h : BlockAt w b ty cs) (h' : BlockAt w b' ty' cs') (hne : ty ≠ ty') : b ≠ b' := by
  rintro rfl
  unfold BlockAt at *
  rw [h] at h'
  simp at h'
  exact hne h'.2

theorem tcells_job (t : Tbl) (i : Nat) (hi : i < 6) : (tcells t)[4 * i]? = some (.int .i64 (t.jobs i).st) ∧ (tcells t)[4 * i + 1]? = some (.int .i64 (t.jobs i).wk) ∧ (tcells t)[4 * i + 2]? = some (.int .i64 (t.jobs i).tr) ∧ (tcells t)[4 * i + 3]? = some (.int .i64 (t.jobs i).un) := by
  match i, hi with
  | 0, _ | 1, _ | 2, _ | 3, _ | 4, _ | 5, _ => exact ⟨rfl, rfl, rfl, rfl⟩
theorem tcells_now (t : Tbl) : (tcells t)[24]? = some (.int .i64 t.now) := rfl
theorem tcells_set (t : Tbl) (i : Nat) (hi : i < 6) (j : Job) : ((((tcells t).set (4 * i) (.int .i64 j.st)).set (4 * i + 1) (.int .i64 j.wk)).set (4 * i + 2) (.int .i64 j.tr)).set (4 * i + 3) (.int .i64 j.un) = tcells (t.set i j) := by
  match i, hi with
  | 0, _ | 1, _ | 2, _ | 3, _ | 4, _ | 5, _ => rfl
theorem tcells_setNow (t : Tbl) (n : Int) : (tcells t).set 24 (.int .i64 n) = tcells ⟨t.jobs, n⟩ := rfl

/-- The four cells of job k, at the walk's own spelling. -/
theorem TableAt.job {w : World} {b : Nat} {t : Tbl} (h : TableAt w b t) {k : Nat} (hk : k < 6) :
    w.cell? ⟨b, k * 4, none⟩ = some (.int .i64 (t.jobs k).st) ∧ w.cell? ⟨b, k * 4 + 1, none⟩ = some (.int .i64 (t.jobs k).wk) ∧
    w.cell? ⟨b, k * 4 + 2, none⟩ = some (.int .i64 (t.jobs k).tr) ∧ w.cell? ⟨b, k * 4 + 3, none⟩ = some (.int .i64 (t.jobs k).un) := by
  rw [Nat.mul_comm]
  obtain ⟨a, b, c, d⟩ := tcells_job t k hk
  exact ⟨h.cell _ _ a, h.cell _ _ b, h.cell _ _ c, h.cell _ _ d⟩
theorem TableAt.setJob {w : World} {b : Nat} {t : Tbl} (h : TableAt w b t) {k : Nat} (hk : k < 6) (j : Job) :
    TableAt ((((w.setCell ⟨b, k * 4, none⟩ (.int .i64 j.st)).setCell ⟨b, k * 4 + 1, none⟩ (.int .i64 j.wk)).setCell ⟨b, k * 4 + 2, none⟩ (.int .i64 j.tr)).setCell ⟨b, k * 4 + 3, none⟩ (.int .i64 j.un)) b (t.set k j) := by
  unfold TableAt
  rw [← tcells_set t k hk j, Nat.mul_comm k 4]
  exact (((BlockAt.set h _ _).set _ _).set _ _).set _ _
theorem grown_setCell {a w : World} {g : Nat} (h : a.grownBy w (some g)) (o : Nat) (u : Value) : a.grownBy (w.setCell ⟨g, o, none⟩ u) (some g) :=
  ⟨h.os, h.tape, h.output, by simpa [World.setCell] using h.size, fun i hi hne => (Below.heap_setCell w _ u i (by
    rintro rfl
    exact hne rfl)).trans (h.block i hi hne)⟩
theorem grown_refl (w : World) (r : Option Nat) : w.grownBy w r := ⟨rfl, rfl, rfl, Nat.le_refl _, fun _ _ _ => rfl⟩
theorem grown_trans {a b c : World} {r : Option Nat} (h : a.grownBy b r) (k : b.grownBy c r) : a.grownBy c r :=
  ⟨k.os.trans h.os, k.tape.trans h.tape, k.output.trans h.output, Nat.le_trans h.size k.size, fun i hi hne => (k.block i (Nat.lt_of_lt_of_le hi h.size) hne).trans (h.block i hi hne)⟩
theorem grown_drewN {a w : World} {r : Option Nat} (h : a.grownBy w r) (n : Nat) : a.grownBy (w.drewN n) r := ⟨h.os, h.tape, h.output, h.size, h.block⟩
theorem grown_drew {a w : World} {r : Option Nat} (h : a.grownBy w r) : a.grownBy w.drew r := ⟨h.os, h.tape, h.output, h.size, h.block⟩
theorem grown_alloc {a w : World} {r : Option Nat} (h : a.grownBy w r) (o : Obj) : a.grownBy (w.alloc o) r :=
  ⟨h.os, h.tape, h.output, Nat.le_trans h.size (by simp), fun i hi hne => (Below.heap_alloc w o i (Nat.lt_of_lt_of_le hi h.size)).trans (h.block i hi hne)⟩
theorem BlockAt.drewN {w : World} {b : Nat} {ty : TypeId} {cs : List Value} (h : BlockAt w b ty cs) (n : Nat) : BlockAt (w.drewN n) b ty cs := h
theorem BlockAt.drew {w : World} {b : Nat} {ty : TypeId} {cs : List Value} (h : BlockAt w b ty cs) : BlockAt w.drew b ty cs := h
theorem BlockAt.alloc {w : World} {b : Nat} {ty : TypeId} {cs : List Value} (h : BlockAt w b ty cs) (o : Obj) : BlockAt (w.alloc o) b ty cs :=
  h.other (grown_alloc (grown_refl w none) o) (by simp)
/-- Two tables that agree on the six jobs stand in the same cells. -/
theorem tcells_congr {t u : Tbl} (hj : ∀ i, i < 6 → t.jobs i = u.jobs i) (hn : t.now = u.now) : tcells t = tcells u := by
  unfold tcells
  rw [hj 0 (by omega), hj 1 (by omega), hj 2 (by omega), hj 3 (by omega), hj 4 (by omega), hj 5 (by omega), hn]
theorem TableAt.congr {w : World} {b : Nat} {t u : Tbl} (h : TableAt w b t) (hj : ∀ i, i < 6 → t.jobs i = u.jobs i) (hn : t.now = u.now) : TableAt w b u := by
  unfold TableAt at *
  rwa [← tcells_congr hj hn]

/-- Single cells each: what a store writes. -/
def Ones (cs : List Value) : Prop := ∀ v ∈ cs, v.oneCell' = true
theorem BlockAt.setRow {w : World} {g : Nat} {t : TypeId} {cs : List Value} (h : BlockAt w g t cs) (cs' : List Value) : BlockAt (w.setRow g cs'.toArray) g t cs' := setRow_heap w g cs.toArray _ t _ h
theorem grown_setRow {a w : World} {g : Nat} (h : a.grownBy w (some g)) (cs : Array Value) : a.grownBy (w.setRow g cs) (some g) :=
  ⟨h.os, h.tape, h.output, by simpa using h.size, fun i hi hne => (setRow_other w g i cs (fun e => hne (by rw [e]))).trans (h.block i hi hne)⟩
section
variable {P : Program}
/-- A struct (or an array) that is a piece of a block, loaded as one value. -/
theorem run_load_part {w : World} {g off : Nat} {t ty : TypeId} {cs vs : List Value} {d : TypeDesc} (hb : BlockAt w g t cs) (hvs : (cs.drop off).take vs.length = vs)
    (hu : P.underlying ty = some d) (hd : (match d with | .struct _ | .array _ _ => true | _ => false) = true) (hi : (P.info? ty).map (·.size) = some vs.length) :
    (loadVar ty ⟨g, off, none⟩).run P w = .ok (.agg vs.toArray) w := by
  have hl : (loadCells ⟨g, off, none⟩ vs.length).run P w = .ok vs.toArray w :=
    run_loadCells_list (P := P) w ⟨g, off, none⟩ vs (fun j v hv => by
      have hadd : (⟨g, off, none⟩ : Addr).add j = ⟨g, off + j, none⟩ := by unfold Addr.add; split <;> simp_all
      rw [hadd]
      refine hb.cell _ _ ?_
      rw [← hvs, List.getElem?_take] at hv
      split at hv
      · rwa [List.getElem?_drop] at hv
      · cases hv)
  cases hq : P.info? ty with
  | none => simp [hq] at hi
  | some i =>
    have hs : i.size = vs.length := by simpa [hq] using hi
    have hagg : (isAgg ty).run P w = .ok true w := by
      unfold isAgg
      rw [Sem.run_bind, run_underlying hu w]
      cases d <;> simp_all
    simp [loadVar, Sem.run_bind, hagg, sizeOf, typeInfo, hq, hs, hl]
theorem wpList_load_part {ops : Array Oper} {rest : List Oper} {o : Oper} {a : Act} {w : World} {Q : Exit → Act → World → Prop} (hgd : o.guard = none) (ty : TypeId) (x : Operand) (ho : o.op = .load ty x)
    (g off : Nat) (hx : a.eval x = .pointer (some ⟨g, off, none⟩)) {t : TypeId} {cs : List Value} (vs : List Value) {d : TypeDesc} (hb : BlockAt w g t cs) (hvs : (cs.drop off).take vs.length = vs)
    (hu : P.underlying ty = some d) (hd : (match d with | .struct _ | .array _ _ => true | _ => false) = true) (hi : (P.info? ty).map (·.size) = some vs.length)
    (h : wpList P ops Q rest (a.put o.dst (.agg vs.toArray)) w) : wpList P ops Q (o :: rest) a w :=
  wpList_plain hgd fun _ hK => by
    unfold Oper.wp execOp
    simp only [ho, hx, Instr.loadAt, Instr.sureAddr, Sem.run_bind, Sem.run_pure, Result.andThen_ok, run_load_part hb hvs hu hd hi]
    exact hK _ _ h
/-- A struct (or an array) stored into a piece of a block. -/
theorem run_store_part {w : World} {g off : Nat} {t ty : TypeId} {cs vs : List Value} (hb : BlockAt w g t cs) (hfit : off + vs.length ≤ cs.length)
    (hi : (P.info? ty).map (·.size) = some vs.length) (h1 : Ones vs) :
    (storeVar ty ⟨g, off, none⟩ (.agg vs.toArray)).run P w = .ok () (w.setRow g (cs.take off ++ vs ++ cs.drop (off + vs.length)).toArray) := by
  have hst := run_storeCells_at P g off t vs 0 cs.toArray w hb (by simpa using hfit) h1
  cases hq : P.info? ty with
  | none => simp [hq] at hi
  | some i =>
    have hs : vs.length = i.size := by simp [hq] at hi; omega
    simp only [Nat.add_zero] at hst
    simp [storeVar, sizeOf, typeInfo, hq, Value.cells, hs]
    simpa [hs] using hst
theorem wpList_store_part {ops : Array Oper} {rest : List Oper} {o : Oper} {a : Act} {w : World} {Q : Exit → Act → World → Prop} (hgd : o.guard = none) (ty : TypeId) (x y : Operand) (ho : o.op = .store ty x y)
    (g off : Nat) (vs : List Value) (hx : a.eval x = .pointer (some ⟨g, off, none⟩)) (hy : a.eval y = .agg vs.toArray) {t : TypeId} {cs : List Value} (hb : BlockAt w g t cs) (hfit : off + vs.length ≤ cs.length)
    (hi : (P.info? ty).map (·.size) = some vs.length) (h1 : Ones vs)
    (h : ∀ w', BlockAt w' g t (cs.take off ++ vs ++ cs.drop (off + vs.length)) → w.grownBy w' (some g) → w'.heap.size = w.heap.size → wpList P ops Q rest (a.put o.dst undef) w') : wpList P ops Q (o :: rest) a w :=
  wpList_plain hgd fun _ hK => by
    unfold Oper.wp execOp
    simp only [ho, hx, hy, Instr.storeAt, Instr.sureAddr, Sem.run_bind, Sem.run_pure, Result.andThen_ok, run_store_part hb hfit hi h1]
    exact hK _ _ (h _ (hb.setRow _) (grown_setRow (grown_refl w _) _) (by simp))
/-- The whole of it. -/
theorem wpList_load_whole {ops : Array Oper} {rest : List Oper} {o : Oper} {a : Act} {w : World} {Q : Exit → Act → World → Prop} (hgd : o.guard = none) (ty : TypeId) (x : Operand) (ho : o.op = .load ty x)
    (g : Nat) (hx : a.eval x = .pointer (some ⟨g, 0, none⟩)) {t : TypeId} (vs : List Value) {d : TypeDesc} (hb : BlockAt w g t vs)
    (hu : P.underlying ty = some d) (hd : (match d with | .struct _ | .array _ _ => true | _ => false) = true) (hi : (P.info? ty).map (·.size) = some vs.length)
    (h : wpList P ops Q rest (a.put o.dst (.agg vs.toArray)) w) : wpList P ops Q (o :: rest) a w :=
  wpList_load_part hgd ty x ho g 0 hx vs hb (by simp) hu hd hi h
theorem wpList_store_whole {ops : Array Oper} {rest : List Oper} {o : Oper} {a : Act} {w : World} {Q : Exit → Act → World → Prop} (hgd : o.guard = none) (ty : TypeId) (x y : Operand) (ho : o.op = .store ty x y)
    (g : Nat) (vs : List Value) (hx : a.eval x = .pointer (some ⟨g, 0, none⟩)) (hy : a.eval y = .agg vs.toArray) {t : TypeId} {cs : List Value} (hb : BlockAt w g t cs) (hfit : vs.length = cs.length)
    (hi : (P.info? ty).map (·.size) = some vs.length) (h1 : Ones vs)
    (h : ∀ w', BlockAt w' g t vs → w.grownBy w' (some g) → w'.heap.size = w.heap.size → wpList P ops Q rest (a.put o.dst undef) w') : wpList P ops Q (o :: rest) a w :=
  wpList_store_part hgd ty x y ho g 0 vs hx hy hb (by omega) hi h1 fun w' h2 h3 h4 => h w' (by simpa [hfit] using h2) h3 h4
end
theorem tcells_len (t : Tbl) : (tcells t).length = 25 := rfl
theorem tcells_ones (t : Tbl) : Ones (tcells t) := by
  intro v hv
  simp only [tcells, jcells, List.cons_append, List.nil_append, List.mem_cons, List.not_mem_nil, or_false] at hv
  rcases hv with h | h | h | h | h | h | h | h | h | h | h | h | h | h | h | h | h | h | h | h | h | h | h | h | h <;> subst h <;> rfl

/-- What a walk wants of a block: all its cells by one rule, none frozen. -/
theorem BlockAt.cells {w : World} {b : Nat} {ty : TypeId} {cs : List Value} (h : BlockAt w b ty cs) : ∀ o, w.cell? ⟨b, o, none⟩ = cs[o]? := by
  intro o
  unfold BlockAt at h
  simp [World.cell?, h]
theorem BlockAt.frees {w : World} {b : Nat} {ty : TypeId} {cs : List Value} (h : BlockAt w b ty cs) : ∀ o, w.frozen? ⟨b, o, none⟩ = false := fun o => h.free o
theorem BlockAt.setOther {w : World} {b : Nat} {ty : TypeId} {cs : List Value} (h : BlockAt w b ty cs) {p : Addr} (hp : b ≠ p.block) (u : Value) : BlockAt (w.setCell p u) b ty cs := by
  unfold BlockAt at *
  rw [Below.heap_setCell _ _ _ _ hp]
  exact h
theorem BlockAt.below {w w' : World} {b B : Nat} {ty : TypeId} {cs : List Value} (h : BlockAt w b ty cs) (hg : Below B w w') (hb : b < B) : BlockAt w' b ty cs := by
  unfold BlockAt at *
  rw [hg.block b hb]; exact h
theorem grown_setNew {a w : World} {r : Option Nat} (h : a.grownBy w r) {p : Addr} (hp : a.heap.size ≤ p.block) (u : Value) : a.grownBy (w.setCell p u) r :=
  ⟨h.os, h.tape, h.output, by simpa [World.setCell] using h.size, fun i hi hne => (Below.heap_setCell w p u i (by omega)).trans (h.block i hi hne)⟩
theorem below_grown {w w' : World} (h : Below w.heap.size w w') (r : Option Nat) : w.grownBy w' r := ⟨h.os, h.tape, h.output, h.size, fun i hi _ => h.block i hi⟩
/-- Grown from a world that had itself grown: a row that was not there counts for nothing. -/
theorem grown_then {a b c : World} {r r' : Option Nat} (h : a.grownBy b r) (k : b.grownBy c r') (hr : r' = r ∨ ∃ x, r' = some x ∧ a.heap.size ≤ x) : a.grownBy c r :=
  ⟨k.os.trans h.os, k.tape.trans h.tape, k.output.trans h.output, Nat.le_trans h.size k.size, fun i hi hne => (k.block i (Nat.lt_of_lt_of_le hi h.size) (by
    rcases hr with rfl | ⟨x, rfl, hx⟩
    · exact hne
    · simp; omega)).trans (h.block i hi hne)⟩
theorem below_then {a b c : World} {r : Option Nat} (h : Below a.heap.size a b) (k : b.grownBy c r) (hr : ∀ x, r = some x → a.heap.size ≤ x) : Below a.heap.size a c :=
  h.grown k h.size hr

theorem tcells_setSt (t : Tbl) (i : Nat) (hi : i < 6) (hz : t.jobs i = Job.zero) : (tcells t).set (4 * i) (.int .i64 1) = tcells (t.set i ⟨1, 0, 0, 0⟩) := by
  match i, hi, hz with
  | 0, _, hz | 1, _, hz | 2, _, hz | 3, _, hz | 4, _, hz | 5, _, hz => simp [tcells, jcells, Tbl.set, hz, Job.zero]
theorem tcells_setUn (t : Tbl) (i : Nat) (hi : i < 6) (u : Int) : (tcells t).set (4 * i + 3) (.int .i64 u) = tcells (t.set i { t.jobs i with un := u }) := by
  match i, hi with
  | 0, _ | 1, _ | 2, _ | 3, _ | 4, _ | 5, _ => rfl
theorem TableAt.setSt {w : World} {b : Nat} {t : Tbl} (h : TableAt w b t) {k : Nat} (hk : k < 6) (hz : t.jobs k = Job.zero) : TableAt (w.setCell ⟨b, k * 4, none⟩ (.int .i64 1)) b (t.set k ⟨1, 0, 0, 0⟩) := by
  unfold TableAt
  rw [← tcells_setSt t k hk hz, Nat.mul_comm k 4]
  exact BlockAt.set h _ _
theorem TableAt.setUn {w : World} {b : Nat} {t : Tbl} (h : TableAt w b t) {k : Nat} (hk : k < 6) (u : Int) : TableAt (w.setCell ⟨b, k * 4 + 3, none⟩ (.int .i64 u)) b (t.set k { t.jobs k with un := u }) := by
  unfold TableAt
  rw [← tcells_setUn t k hk u, Nat.mul_comm k 4]
  exact BlockAt.set h _ _

theorem grown_below {a b c : World} {r : Option Nat} (h : a.grownBy b r) (k : Below b.heap.size b c) : a.grownBy c r :=
  ⟨k.os.trans h.os, k.tape.trans h.tape, k.output.trans h.output, Nat.le_trans h.size k.size, fun i hi hne => (k.block i (Nat.lt_of_lt_of_le hi h.size)).trans (h.block i hi hne)⟩
theorem grown_far {a b c : World} {r : Option Nat} {x : Nat} (h : a.grownBy b r) (k : b.grownBy c (some x)) (hx : a.heap.size ≤ x) : a.grownBy c r :=
  grown_then h k (.inr ⟨x, rfl, hx⟩)
def ocells (o : Ord) : List Value := [.int .i64 o.kind, .int .i64 o.now, .int .i64 o.job, .int .i64 o.tr, .int .i64 o.wk, .int .i64 o.tm]
/-- What is answered, and the table behind it. -/
def AnsPost (w : World) (b : Nat) (x : Tbl × Ans) (e : Ending) (w' : World) : Prop :=
  e = .returned (.agg #[.int .i64 x.2.code, .int .i64 x.2.job, .int .i64 x.2.tr]) ∧ w.grownBy w' (some b) ∧ TableAt w' b x.1
theorem ret_i64 {a b : Int} (h : a = b) : Ending.returned (.int .i64 a) = .returned (.int .i64 b) := by rw [h]
theorem passTo_keep {w : World} {b : Nat} (t : Tbl) (m : Int) (k : Nat) (h : TableAt w b (passTo t m k)) (he : expire m (t.jobs k) = t.jobs k) : TableAt w b (passTo t m (k + 1)) := by
  refine h.congr (fun i _ => ?_) rfl
  simp only [passTo]
  by_cases h1 : i < k
  · simp [h1, Nat.lt_succ_of_lt h1]
  · by_cases h2 : i = k
    · subst h2; simp [he]
    · simp [h1, show ¬ i < k + 1 by omega]
theorem passTo_set {w : World} {b : Nat} (t : Tbl) (m : Int) (k : Nat) (h : TableAt w b ((passTo t m k).set k (expire m (t.jobs k)))) : TableAt w b (passTo t m (k + 1)) := by
  refine h.congr (fun i _ => ?_) rfl
  simp only [passTo, Tbl.set]
  by_cases h1 : i < k
  · simp [h1, Nat.lt_succ_of_lt h1, show ¬ i = k by omega]
  · by_cases h2 : i = k
    · subst h2; simp
    · simp [h1, h2, show ¬ i < k + 1 by omega]
theorem passTo_end {w : World} {b : Nat} (t : Tbl) (n : Int) (h : TableAt w b (passTo t (max t.now n) 6)) : TableAt w b (t.pass n) := by
  refine h.congr (fun i hi => ?_) rfl
  simp [passTo, Tbl.pass, hi]
theorem passTo_start {w : World} {b : Nat} (t : Tbl) (m : Int) (h : TableAt w b t) : TableAt (w.setCell ⟨b, 24, none⟩ (.int .i64 m)) b (passTo t m 0) := by
  refine TableAt.congr (t := ⟨t.jobs, m⟩) (BlockAt.set h 24 _) (fun i _ => ?_) rfl
  simp [passTo]

end Go.Proofs.YtfihmpkkpgmdhaaGreatDoor

/-
  What stands in memory, more: footprints; rows of bytes; a slice of bytes that one owns.
-/
namespace Go.Proofs.YtfihmpkkpgmdhaaGreatDoor
open Go.RowKit

/-- Of the blocks that there were only those of F are other. -/
structure Upd (F : Nat → Prop) (w w' : World) : Prop where
  os : w'.os = w.os
  tape : w'.tape = w.tape
  output : w'.output = w.output
  size : w.heap.size ≤ w'.heap.size
  block : ∀ k, k < w.heap.size → ¬ F k → w'.heap[k]? = w.heap[k]?
/-- What F' holds is of F, or new. -/
def From (w : World) (F F' : Nat → Prop) : Prop := ∀ k, F' k → F k ∨ w.heap.size ≤ k
def Sep (F G : Nat → Prop) : Prop := ∀ k, F k → ¬ G k
/-- All of F is there. -/
def In (w : World) (F : Nat → Prop) : Prop := ∀ k, F k → k < w.heap.size

theorem Upd.refl (F : Nat → Prop) (w : World) : Upd F w w := ⟨rfl, rfl, rfl, Nat.le_refl _, fun _ _ _ => rfl⟩
theorem Upd.trans {F G : Nat → Prop} {a b c : World} (h : Upd F a b) (k : Upd G b c) (hs : From a F G) : Upd F a c :=
  ⟨k.os.trans h.os, k.tape.trans h.tape, k.output.trans h.output, Nat.le_trans h.size k.size, fun i hi hf => (k.block i (Nat.lt_of_lt_of_le hi h.size) (fun hg => by
    rcases hs i hg with h1 | h1
    · exact hf h1
    · omega)).trans (h.block i hi hf)⟩
theorem Upd.mono {F G : Nat → Prop} {a b : World} (h : Upd F a b) (hs : ∀ k, F k → G k) : Upd G a b :=
  ⟨h.os, h.tape, h.output, h.size, fun i hi hg => h.block i hi fun hf => hg (hs i hf)⟩
theorem Upd.weak {F G : Nat → Prop} {a b : World} (h : Upd F a b) (hs : From a G F) : Upd G a b :=
  ⟨h.os, h.tape, h.output, h.size, fun i hi hg => h.block i hi fun hf => by
    rcases hs i hf with h1 | h1
    · exact hg h1
    · omega⟩
theorem Upd.of_grown {w w' : World} {r : Option Nat} (h : w.grownBy w' r) : Upd (fun k => r = some k) w w' :=
  ⟨h.os, h.tape, h.output, h.size, fun k hk hf => h.block k hk fun e => hf e.symm⟩
theorem Upd.of_below {w w' : World} (h : Below w.heap.size w w') (F : Nat → Prop) : Upd F w w' :=
  ⟨h.os, h.tape, h.output, h.size, fun k hk _ => h.block k hk⟩
theorem Upd.below {F : Nat → Prop} {B : Nat} {w w' : World} (h : Upd F w w') (hB : B ≤ w.heap.size) (hF : ∀ k, F k → B ≤ k) : Below B w w' :=
  ⟨h.os, h.tape, h.output, h.size, fun k hk => h.block k (Nat.lt_of_lt_of_le hk hB) fun hf => by have := hF k hf; omega⟩
theorem Upd.alloc {F : Nat → Prop} {a w : World} (h : Upd F a w) (o : Obj) : Upd F a (w.alloc o) :=
  ⟨h.os, h.tape, h.output, Nat.le_trans h.size (by simp), fun i hi hne => (Below.heap_alloc w o i (Nat.lt_of_lt_of_le hi h.size)).trans (h.block i hi hne)⟩
theorem Upd.setCell {F : Nat → Prop} {a w : World} (h : Upd F a w) {p : Addr} (hp : F p.block ∨ a.heap.size ≤ p.block) (u : Value) : Upd F a (w.setCell p u) :=
  ⟨h.os, h.tape, h.output, by simpa [World.setCell] using h.size, fun i hi hne => (Below.heap_setCell w p u i (by
    rintro rfl
    rcases hp with hp | hp
    · exact hne hp
    · omega)).trans (h.block i hi hne)⟩
theorem Upd.drewN {F : Nat → Prop} {a w : World} (h : Upd F a w) (n : Nat) : Upd F a (w.drewN n) := ⟨h.os, h.tape, h.output, h.size, h.block⟩
theorem Upd.drew {F : Nat → Prop} {a w : World} (h : Upd F a w) : Upd F a w.drew := ⟨h.os, h.tape, h.output, h.size, h.block⟩
theorem BlockAt.upd {F : Nat → Prop} {w w' : World} {b : Nat} {ty : TypeId} {cs : List Value} (h : BlockAt w b ty cs) (hu : Upd F w w') (hf : ¬ F b) : BlockAt w' b ty cs := by
  have hb := hu.block b h.lt hf
  unfold BlockAt at *
  rw [hb]; exact h
theorem From.refl (w : World) (F : Nat → Prop) : From w F F := fun _ h => .inl h
theorem From.trans {a b : World} {F G H : Nat → Prop} (h : From a F G) (k : From b G H) (hs : a.heap.size ≤ b.heap.size) : From a F H := fun i hi => by
  rcases k i hi with h1 | h1
  · exact h i h1
  · exact .inr (by omega)
theorem Sep.step {w : World} {F F' G : Nat → Prop} (h : Sep F G) (hs : From w F F') (hG : In w G) : Sep F' G := fun k hk hg => by
  rcases hs k hk with h1 | h1
  · exact h k h1 hg
  · have := hG k hg; omega
theorem Sep.symm {F G : Nat → Prop} (h : Sep F G) : Sep G F := fun k hg hf => h k hf hg
theorem From.ge {w : World} {F F' : Nat → Prop} {B : Nat} (h : From w F F') (hB : B ≤ w.heap.size) (hF : ∀ k, F k → B ≤ k) : ∀ k, F' k → B ≤ k := fun k hk => by
  rcases h k hk with h1 | h1
  · exact hF k h1
  · omega
theorem In.mono {w w' : World} {F : Nat → Prop} (h : In w F) (hs : w.heap.size ≤ w'.heap.size) : In w' F := fun k hk => Nat.lt_of_lt_of_le (h k hk) hs

/-- A byte in its cell. -/
def bv (x : UInt8) : Value := .int .u8 x.toNat
def bvs (l : List UInt8) : List Value := l.map bv
@[simp] theorem bvs_length (l : List UInt8) : (bvs l).length = l.length := by simp [bvs]
theorem bvs_append (l m : List UInt8) : bvs (l ++ m) = bvs l ++ bvs m := by simp [bvs]
theorem bvs_ones (l : List UInt8) : ∀ u ∈ bvs l, u.oneCell' = true := by
  intro u hu
  simp only [bvs, List.mem_map] at hu
  obtain ⟨x, _, rfl⟩ := hu
  rfl

/-- A slice of bytes that reads as l. -/
def BytesAt (w : World) (v : Value) (l : List UInt8) : Prop :=
  ∃ a c, v = .slice a l.length c ∧ l.length ≤ c ∧ c ≤ maxLen ∧ (a = none → c = 0) ∧
    (l ≠ [] → ∃ g off, a = some ⟨g, off, none⟩ ∧ ∀ j u, (bvs l)[j]? = some u → w.cell? ⟨g, off + j, none⟩ = some u)
/-- Its block. -/
def OwnB (w : World) (v : Value) (l : List UInt8) : Prop :=
  (v = .slice none 0 0 ∧ l = []) ∨
  ∃ g cap cur, v = .slice (some ⟨g, 0, none⟩) l.length cap ∧ BlockAt w g 5 cur ∧ l.length ≤ cap ∧ cap ≤ cur.length ∧ cap ≤ maxLen ∧ cur.take l.length = bvs l

theorem OwnB.nil (w : World) : OwnB w (.slice none 0 0) [] := .inl ⟨rfl, rfl⟩
theorem OwnB.bytes {w : World} {v : Value} {l : List UInt8} (h : OwnB w v l) : BytesAt w v l := by
  rcases h with ⟨rfl, rfl⟩ | ⟨g, cap, cur, rfl, hb, h1, h2, h3, h4⟩
  · exact ⟨none, 0, rfl, Nat.le_refl _, Nat.zero_le _, fun _ => rfl, fun h => absurd rfl h⟩
  · refine ⟨_, cap, rfl, h1, h3, by simp, fun _ => ⟨g, 0, rfl, fun j u hu => ?_⟩⟩
    rw [Nat.zero_add]
    refine hb.cell j u ?_
    rw [← h4, List.getElem?_take] at hu
    split at hu
    · exact hu
    · cases hu
theorem OwnB.lt {w : World} {v : Value} {l : List UInt8} (h : OwnB w v l) {k : Nat} (hk : v.ownBlock = some k) : k < w.heap.size := by
  rcases h with ⟨rfl, rfl⟩ | ⟨g, cap, cur, rfl, hb, _⟩
  · simp [Value.ownBlock] at hk
  · simp [Value.ownBlock] at hk
    subst hk
    exact hb.lt
theorem OwnB.upd {F : Nat → Prop} {w w' : World} {v : Value} {l : List UInt8} (h : OwnB w v l) (hu : Upd F w w') (hf : ∀ k, v.ownBlock = some k → ¬ F k) : OwnB w' v l := by
  rcases h with h | ⟨g, cap, cur, rfl, hb, h1⟩
  · exact .inl h
  · exact .inr ⟨g, cap, cur, rfl, hb.upd hu (hf g rfl), h1⟩
theorem BytesAt.upd {F : Nat → Prop} {w w' : World} {v : Value} {l : List UInt8} (h : BytesAt w v l) (hu : Upd F w w') (hf : ∀ k, v.ownBlock = some k → ¬ F k) : BytesAt w' v l := by
  obtain ⟨a, c, rfl, h1, h2, h3, h4⟩ := h
  refine ⟨a, c, rfl, h1, h2, h3, fun hl => ?_⟩
  obtain ⟨g, off, rfl, h5⟩ := h4 hl
  refine ⟨g, off, rfl, fun j u hj => ?_⟩
  have hc := h5 j u hj
  rw [World.cell?_of_block (hu.block g (block_lt_of_cell hc) (hf g rfl))]
  exact hc
theorem BytesAt.len {w : World} {v : Value} {l : List UInt8} (h : BytesAt w v l) : l.length ≤ maxLen := by
  obtain ⟨_, _, _, h1, h2, _⟩ := h
  omega
/-- Cut to the first n, the capacity too. -/
theorem OwnB.cut {w : World} {g len cap : Nat} {l : List UInt8} (h : OwnB w (.slice (some ⟨g, 0, none⟩) len cap) l) {n : Nat} (hn : n ≤ l.length) : OwnB w (.slice (some ⟨g, 0, none⟩) n n) (l.take n) := by
  rcases h with ⟨h, _⟩ | ⟨g', cap', cur, h, hb, h1, h2, h3, h4⟩
  · simp at h
  · simp only [Value.slice.injEq, Option.some.injEq, Addr.mk.injEq, and_true] at h
    obtain ⟨rfl, _, rfl⟩ := h
    have e : (l.take n).length = n := by simp; omega
    refine .inr ⟨g, n, cur, by rw [e], hb, by omega, by omega, by omega, ?_⟩
    rw [e]
    have h5 : (cur.take l.length).take n = (bvs l).take n := by rw [h4]
    rw [List.take_take, Nat.min_eq_left hn] at h5
    rw [h5]
    simp [bvs]

theorem laid_three (w : World) (t : TypeId) (a b : List Value) (Z : Array Value) : BlockAt (w.alloc (.cells (a.toArray ++ b.toArray ++ Z) t)) w.heap.size t (a ++ b ++ Z.toList) := by
  obtain ⟨Z⟩ := Z
  have := BlockAt.new w t (a ++ b ++ Z)
  simpa using this
section
variable {P : Program}
/-- append of bytes to bytes that one owns. -/
theorem run_append_bytes {w : World} (t ty e : TypeId) (i : TypeInfo) (ht : P.underlying t = some (.slice e)) (hi : P.info? e = some i) (hz : i.zero = some (.int .u8 0)) (hsz : i.size = 1) (hby : i.bytes = 1) (he : e = 5)
    {v y : Value} {l m : List UInt8} (hv : OwnB w v l) (hy : BytesAt w y m) (hlen : l.length + m.length ≤ 140737488355328) :
    ∃ v' w', (Builtin.append_ #[t, t] ty #[v, y]).run P w = .ok v' w' ∧ OwnB w' v' (l ++ m) ∧ Upd (fun k => v.ownBlock = some k) w w' ∧ (∀ k, v'.ownBlock = some k → v.ownBlock = some k ∨ w.heap.size ≤ k) := by
  subst he
  have hml : maxLen = 9223372036854775807 := rfl
  obtain ⟨ya, yc, rfl, y1, y2, y3, y4⟩ := hy
  by_cases hm : m = []
  · subst hm
    refine ⟨v, w, ?_, by simpa using hv, Upd.refl _ _, fun k hk => .inl hk⟩
    rcases hv with ⟨rfl, rfl⟩ | ⟨g, cap, cur, rfl, hb, h1, h2, h3, h4⟩
    · cases ya <;> simp [Builtin.append_, run_underlying ht, sizeOf, typeInfo, hi, Builtin.lenOf, Builtin.firstCells, loadCells, loadCellsFrom]
    · cases ya <;> simp [Builtin.append_, run_underlying ht, sizeOf, typeInfo, hi, Builtin.lenOf, Builtin.firstCells, loadCells, loadCellsFrom, h1, storeCells]
  · obtain ⟨yg, yo, rfl, y5⟩ := y4 hm
    have hnews : ∀ j u, (bvs m)[j]? = some u → w.cell? ((⟨yg, yo, none⟩ : Addr).add j) = some u := fun j u hj => by
      rw [Addr.add_lit]; exact y5 j u hj
    have hm0 : 0 < m.length := List.length_pos_iff.2 hm
    have grown : ∀ old, old < l.length + m.length →
        OwnB (w.drew.alloc (.cells ((bvs l).toArray ++ (bvs m).toArray ++ Builtin.zeroCells (Value.cells (.int .u8 0)) (grownCap w (l.length + m.length) old 5 - (l.length + m.length))) 5))
          (.slice (some ⟨w.heap.size, 0, none⟩) (l.length + m.length) (grownCap w (l.length + m.length) old 5)) (l ++ m) := fun old _ => by
      have hge := grownCap_ge w (l.length + m.length) old 5
      have hcm := grownCap_le_maxLen w (l.length + m.length) old 5 (by omega)
      refine .inr ⟨w.heap.size, _, bvs l ++ bvs m ++ (Builtin.zeroCells (Value.cells (.int .u8 0)) (grownCap w (l.length + m.length) old 5 - (l.length + m.length))).toList, by simp, ?_, by simpa using hge, ?_, hcm, ?_⟩
      · exact laid_three w.drew 5 _ _ _
      · simp only [List.length_append, bvs_length, Array.length_toList, size_zeroCells]
        simp [Value.cells]; omega
      · rw [bvs_append, List.take_append_of_le_length (by simp)]
        exact List.take_of_length_le (by simp)
    rcases hv with ⟨rfl, rfl⟩ | ⟨g, cap, cur, rfl, hb, h1, h2, h3, h4⟩
    · have hr := run_append_nil (P := P) w t ty 5 i (.int .u8 0) ht hi hz ⟨yg, yo, none⟩ m.length yc (bvs m) (by simp [hsz]) hnews hm0 (by omega) (by rw [hby]; omega)
      have hg := grown 0 (by omega)
      simp only [List.length_nil, Nat.zero_add] at hg hr
      refine ⟨_, _, hr, by simpa [bvs] using hg, ?_, fun k hk => .inr ?_⟩
      · exact (Upd.drew (Upd.refl _ w)).alloc _
      · simp [Value.ownBlock] at hk; omega
    · by_cases hroom : l.length + m.length ≤ cap
      · have hr := run_append_room (P := P) w t ty 5 i ht hi g l.length cap cur.toArray hb ⟨yg, yo, none⟩ m.length yc (bvs m) (by simp [hsz]) hnews (bvs_ones m) hroom (by simp [hsz]; omega)
        refine ⟨_, _, hr, .inr ⟨g, cap, (bvs l ++ bvs m ++ cur.drop (l.length + m.length)), by simp, ?_, by simpa using hroom, ?_, h3, ?_⟩, ?_, fun k hk => .inl hk⟩
        · have := hb.setRow (cur.take l.length ++ bvs m ++ cur.drop (l.length + m.length))
          rw [h4] at this
          simpa [hsz, h4] using this
        · simp; omega
        · rw [bvs_append, List.take_append_of_le_length (by simp)]
          exact List.take_of_length_le (by simp)
        · exact Upd.of_grown (grown_setRow (grown_refl w _) _)
      · have holds : ∀ j u, (bvs l)[j]? = some u → w.cell? ((⟨g, 0, none⟩ : Addr).add j) = some u := fun j u hu => by
          rw [Addr.add_lit, Nat.zero_add]
          refine hb.cell j u ?_
          rw [← h4, List.getElem?_take] at hu
          split at hu
          · exact hu
          · cases hu
        have hr := run_append_grow (P := P) w t ty 5 i (.int .u8 0) ht hi hz ⟨g, 0, none⟩ l.length cap (bvs l) (by simp [hsz]) holds ⟨yg, yo, none⟩ m.length yc (bvs m) (by simp [hsz]) hnews (by omega) (by omega) (by rw [hby]; exact growslice_fits (by omega) (by omega))
        refine ⟨_, _, hr, grown cap (by omega), ?_, fun k hk => .inr ?_⟩
        · exact (Upd.drew (Upd.refl _ w)).alloc _
        · simp [Value.ownBlock] at hk; omega
theorem wpList_append_bytes {w : World} {ops : Array Oper} {rest : List Oper} {o : Oper} {a : Act} {Q : Exit → Act → World → Prop} (hgd : o.guard = none) (s x : Operand) (t : TypeId)
    (ho : o.op = .call { callee := .builtin .append, args := #[s, x], argTypes := #[t, t] })
    (e : TypeId) (i : TypeInfo) (ht : P.underlying t = some (.slice e)) (hi : P.info? e = some i) (hz : i.zero = some (.int .u8 0)) (hsz : i.size = 1) (hby : i.bytes = 1) (he : e = 5)
    {v y : Value} {l m : List UInt8} (hs : a.eval s = v) (hx : a.eval x = y) (hv : OwnB w v l) (hy : BytesAt w y m) (hlen : l.length + m.length ≤ 140737488355328)
    (h : ∀ v' w', OwnB w' v' (l ++ m) → Upd (fun k => v.ownBlock = some k) w w' → (∀ k, v'.ownBlock = some k → v.ownBlock = some k ∨ w.heap.size ≤ k) → wpList P ops Q rest (a.put o.dst v') w') : wpList P ops Q (o :: rest) a w :=
  wpList_plain hgd fun _ hK => by
    obtain ⟨v', w', hr, h2, h3, h4⟩ := run_append_bytes (P := P) t o.type e i ht hi hz hsz hby he hv hy hlen
    unfold Oper.wp execOp
    simp only [ho, resolve, invoke, builtin, Sem.run_bind, Sem.run_pure, Result.andThen_ok, List.map_toArray, List.map_cons, List.map_nil, hs, hx, hr]
    exact hK _ _ (h v' w' h2 h3 h4)
end
end Go.Proofs.YtfihmpkkpgmdhaaGreatDoor

/-
  Contracts: the package disk, and the document's plate, walked.
-/
namespace Go.Proofs.YtfihmpkkpgmdhaaGreatDoor
set_option maxRecDepth 100000
open Go.RowKit

def DiskAt (w : World) (b : Nat) (d : Dsk) (F : Nat → Prop) : Prop :=
  ∃ v, BlockAt w b 108 [.int .i64 d.ep, v] ∧ OwnB w v d.b ∧ F = fun k => k = b ∨ v.ownBlock = some k
theorem DiskAt.inW {w : World} {b : Nat} {d : Dsk} {F : Nat → Prop} (h : DiskAt w b d F) : In w F := by
  obtain ⟨v, hb, hv, rfl⟩ := h
  rintro k (rfl | hk)
  · exact hb.lt
  · exact hv.lt hk
theorem DiskAt.upd {G : Nat → Prop} {w w' : World} {b : Nat} {d : Dsk} {F : Nat → Prop} (h : DiskAt w b d F) (hu : Upd G w w') (hs : Sep F G) : DiskAt w' b d F := by
  obtain ⟨v, hb, hv, rfl⟩ := h
  exact ⟨v, hb.upd hu (hs b (.inl rfl)), hv.upd hu fun k hk => hs k (.inr hk), rfl⟩
theorem OwnB.ne {w : World} {v : Value} {l : List UInt8} (h : OwnB w v l) {b : Nat} {ty : TypeId} {cs : List Value} (hb : BlockAt w b ty cs) (hne : ty ≠ 5) : ∀ k, v.ownBlock = some k → k ≠ b := by
  rcases h with ⟨rfl, _⟩ | ⟨g, cap, cur, rfl, hg, _⟩
  · intro k hk; simp [Value.ownBlock] at hk
  · intro k hk; simp [Value.ownBlock] at hk; subst hk; exact hg.ne hb (Ne.symm hne)
theorem Tryz.infoU8 : (Tryz.prog.info? 5).map (fun i => (i.zero, i.size, i.bytes)) = some (some (.int .u8 0), 1, 1) := by kernel_rfl

theorem dnew_any (w : World) :
    Calls Tryz.prog 19 #[] w fun e w' => ∃ b F, e = .returned (.pointer (some ⟨b, 0, none⟩)) ∧ Below w.heap.size w w' ∧ DiskAt w' b Dsk.zero F ∧ ∀ k, F k → w.heap.size ≤ k := by
  go_enter Tryz.func19, Tryz.ntmps19
  go_wp2
  go_ret
  exact ⟨_, _, rfl, (Below.refl _ _).alloc (Nat.le_refl _) _, ⟨_, BlockAt.new w _ _, OwnB.nil _, rfl⟩, by rintro k (rfl | hk); exact Nat.le_refl _; simp [Value.ownBlock] at hk⟩

theorem epoch_any (b : Nat) (d : Dsk) (F : Nat → Prop) (w : World) (h : DiskAt w b d F) :
    Calls Tryz.prog 51 #[.pointer (some ⟨b, 0, none⟩)] w fun e w' => e = .returned (.int .i64 d.ep) ∧ w = w' := by
  obtain ⟨v, hb, hv, rfl⟩ := h
  have c := hb.cells
  clear hb hv
  go_enter Tryz.func51, Tryz.ntmps51
  go_wp2
  go_ret
  exact ⟨rfl, rfl⟩

theorem may_any (b : Nat) (d : Dsk) (F : Nat → Prop) (x : Int) (w : World) (h : DiskAt w b d F) :
    Calls Tryz.prog 134 #[.pointer (some ⟨b, 0, none⟩), .int .i64 x] w fun e w' => e = .returned (.int .i64 (d.may x)) ∧ w = w' := by
  obtain ⟨v, hb, hv, rfl⟩ := h
  have c := hb.cells
  clear hb hv
  by_cases h1 : x < 1
  · have e : d.may x = 9 := by simp [Dsk.may, h1]
    rw [e]; clear e
    go_enter Tryz.func134, Tryz.ntmps134
    go_wp2
    go_ret
    exact ⟨rfl, rfl⟩
  · by_cases h2 : x = d.ep
    · have e : d.may x = 0 := by simp [Dsk.may]; omega
      rw [e]; clear e
      have h3 : (x != d.ep) = false := by simpa using h2
      clear h2
      go_enter Tryz.func134, Tryz.ntmps134
      go_wp2
      go_ret
      exact ⟨rfl, rfl⟩
    · have e : d.may x = 9 := by simp [Dsk.may, h2]
      rw [e]; clear e
      have h3 : (x != d.ep) = true := by simpa using h2
      clear h2
      go_enter Tryz.func134, Tryz.ntmps134
      go_wp2
      go_ret
      exact ⟨rfl, rfl⟩

/-- What is answered, and the disk behind it. -/
def DiskPost (w : World) (b : Nat) (F : Nat → Prop) (d : Dsk) (v : Value) (e : Ending) (w' : World) : Prop :=
  ∃ F', e = .returned v ∧ DiskAt w' b d F' ∧ Upd F w w' ∧ From w F F'

theorem raise_any (b : Nat) (d : Dsk) (F : Nat → Prop) (w : World) (h : DiskAt w b d F) (hok : d.Ok) :
    Calls Tryz.prog 121 #[.pointer (some ⟨b, 0, none⟩)] w (DiskPost w b F d.raise.1 (.tuple #[.int .i64 d.raise.2.1, .int .i64 d.raise.2.2])) := by
  have HH := Lib.hid h
  obtain ⟨v, hb, hv, rfl⟩ := h
  have c := hb.cells
  have f := hb.frees
  have h0 := hok.ep.1
  have h1 := hok.ep.2
  have HB := Lib.hid hb
  have HV := Lib.hid hv
  clear hb hv hok
  by_cases hr : 100 ≤ d.ep
  · have e : d.raise = (d, 0, 8) := by simp [Dsk.raise, hr]
    rw [e]; clear e
    go_enter Tryz.func121, Tryz.ntmps121
    go_wp2
    go_ret2
    exact ⟨_, rfl, HH.out, Upd.refl _ _, From.refl _ _⟩
  · have e : d.raise = (⟨d.ep + 1, d.b⟩, d.ep + 1, 0) := by simp [Dsk.raise, hr]
    rw [e]; clear e
    go_enter Tryz.func121, Tryz.ntmps121
    go_wp2
    go_ret2
    exact ⟨_, rfl, ⟨v, HB.out.set 0 _, HV.out.upd (Upd.setCell (F := fun k => k = b) (Upd.refl _ w) (.inl rfl) _) (HV.out.ne HB.out (by decide)), rfl⟩, Upd.setCell (Upd.refl _ _) (.inl (.inl rfl)) _, From.refl _ _⟩

set_option maxHeartbeats 1000000 in
theorem append_any (b : Nat) (d : Dsk) (F : Nat → Prop) (x : Int) (y : Value) (m : List UInt8) (w : World) (h : DiskAt w b d F) (hok : d.Ok) (hy : BytesAt w y m) (hm : m.length ≤ 100000) :
    Calls Tryz.prog 137 #[.pointer (some ⟨b, 0, none⟩), .int .i64 x, y] w (DiskPost w b F (d.append x m).1 (.int .i64 (d.append x m).2)) := by
  have HH := Lib.hid h
  have HY := Lib.hid hy
  obtain ⟨v, hb, hv, rfl⟩ := h
  have HB := Lib.hid hb
  have HV := Lib.hid hv
  have c := hb.cells
  have f := hb.frees
  have hl := hok.b
  obtain ⟨va, vc, rfl, _⟩ : ∃ a c, v = .slice a d.b.length c ∧ True := by obtain ⟨a, c, h, _⟩ := hv.bytes; exact ⟨a, c, h, trivial⟩
  obtain ⟨ya, yc, rfl, _⟩ : ∃ a c, y = .slice a m.length c ∧ True := by obtain ⟨a, c, h, _⟩ := hy; exact ⟨a, c, h, trivial⟩
  clear hb hv hok hy
  by_cases h1 : d.may x = 0
  · have hx : ¬ (x < 1 ∨ x ≠ d.ep) := by intro h; simp [Dsk.may, h] at h1
    by_cases h2 : 1500 < d.b.length + m.length
    · have e : d.append x m = (d, 8) := by rw [Dsk.append, if_neg hx, if_pos h2]
      rw [e]; clear e
      have H1 := Lib.hid h1; clear h1 hx
      go_enter Tryz.func137, Tryz.ntmps137
      go_wp2_with (go_at_call 134; refine (may_any b d _ x _ HH.out).mono ?_; rw [H1.out]; rintro e w' ⟨rfl, rfl⟩)
      go_ret
      exact ⟨_, rfl, HH.out, Upd.refl _ _, From.refl _ _⟩
    · have e : d.append x m = (⟨d.ep, d.b ++ m⟩, 0) := by rw [Dsk.append, if_neg hx, if_neg h2]
      rw [e]; clear e
      have H1 := Lib.hid h1; clear h1 hx
      obtain ⟨i0, hi, hz0, hz1, hz2⟩ := info_parts Tryz.infoU8
      go_enter Tryz.func137, Tryz.ntmps137
      go_wp2_with (first | (go_at_call 134; refine (may_any b d _ x _ HH.out).mono ?_; rw [H1.out]; rintro e w' ⟨rfl, rfl⟩) | (at_builtin; refine wpList_append_bytes (v := .slice va d.b.length vc) rfl _ _ 42 rfl 5 i0 Tryz.underlying42 hi hz0 hz1 hz2 rfl rfl rfl HV.out HY.out (by omega) ?_; intro v' w' hv' hu hfr; have hb' := HB.out.upd hu (fun hk => HV.out.ne HB.out (by decide) b hk rfl); have c' := hb'.cells; have f' := hb'.frees; obtain ⟨va', vc', e', _⟩ := hv'.bytes; rw [List.length_append] at e'; subst e'; have HB' := Lib.hid hb'; have HV' := Lib.hid hv'; have HU := Lib.hid hu; have HF := Lib.hid hfr; clear hb' hv' hu hfr c f))
      go_ret
      exact ⟨_, rfl, ⟨_, HB'.out.set 1 _, HV'.out.upd (Upd.setCell (F := fun k => k = b) (Upd.refl _ _) (.inl rfl) _) (HV'.out.ne HB'.out (by decide)), rfl⟩, Upd.setCell (HU.out.mono fun k hk => .inr hk) (.inl (.inl rfl)) _, by
        rintro k (rfl | hk)
        · exact .inl (.inl rfl)
        · rcases HF.out k hk with h | h
          · exact .inl (.inr h)
          · exact .inr h⟩
  · have e : d.append x m = (d, 9) := by
      rw [Dsk.append, if_pos]
      exact Classical.byContradiction fun h => h1 (by rw [Dsk.may, if_neg h])
    have e9 : d.may x = 9 := by
      unfold Dsk.may at h1 ⊢
      split
      · rfl
      · rename_i h; rw [if_neg h] at h1; exact absurd rfl h1
    rw [e]; clear e
    have H1 := Lib.hid e9; clear h1 e9
    go_enter Tryz.func137, Tryz.ntmps137
    go_wp2_with (go_at_call 134; refine (may_any b d _ x _ HH.out).mono ?_; rw [H1.out]; rintro e w' ⟨rfl, rfl⟩)
    go_ret
    exact ⟨_, rfl, HH.out, Upd.refl _ _, From.refl _ _⟩

set_option maxHeartbeats 1000000 in
theorem cut_any (b : Nat) (d : Dsk) (F : Nat → Prop) (x n : Int) (w : World) (h : DiskAt w b d F) (hok : d.Ok) :
    Calls Tryz.prog 122 #[.pointer (some ⟨b, 0, none⟩), .int .i64 x, .int .i64 n] w (DiskPost w b F (d.cut x n).1 (.int .i64 (d.cut x n).2)) := by
  have HH := Lib.hid h
  obtain ⟨v, hb, hv, rfl⟩ := h
  have HB := Lib.hid hb
  have HV := Lib.hid hv
  have c := hb.cells
  have f := hb.frees
  have hl := hok.b
  by_cases h1 : d.may x = 0
  · have hx : ¬ (x < 1 ∨ x ≠ d.ep) := by intro h; simp [Dsk.may, h] at h1
    by_cases h2 : n < 0 ∨ (d.b.length : Int) < n
    · have e : d.cut x n = (d, 3) := by rw [Dsk.cut, if_neg hx, if_pos h2]
      rw [e]; clear e
      have H1 := Lib.hid h1; clear h1 hx
      obtain ⟨va, vc, rfl, _⟩ : ∃ a c, v = .slice a d.b.length c ∧ True := by obtain ⟨a, c, h, _⟩ := hv.bytes; exact ⟨a, c, h, trivial⟩
      clear hb hv hok
      rcases h2 with h2 | h2
      · go_enter Tryz.func122, Tryz.ntmps122
        go_wp2_with (go_at_call 134; refine (may_any b d _ x _ HH.out).mono ?_; rw [H1.out]; rintro e w' ⟨rfl, rfl⟩)
        go_ret
        exact ⟨_, rfl, HH.out, Upd.refl _ _, From.refl _ _⟩
      · have h3 : ¬ n < 0 := by omega
        go_enter Tryz.func122, Tryz.ntmps122
        go_wp2_with (go_at_call 134; refine (may_any b d _ x _ HH.out).mono ?_; rw [H1.out]; rintro e w' ⟨rfl, rfl⟩)
        go_ret
        exact ⟨_, rfl, HH.out, Upd.refl _ _, From.refl _ _⟩
    · have e : d.cut x n = (⟨d.ep, d.b.take n.toNat⟩, 0) := by rw [Dsk.cut, if_neg hx, if_neg h2]
      rw [e]; clear e
      have H1 := Lib.hid h1; clear h1 hx
      obtain ⟨q, rfl⟩ := Int.eq_ofNat_of_zero_le (show 0 ≤ n by omega)
      have h3 : q ≤ d.b.length := by omega
      clear h2
      rw [Int.toNat_natCast]
      rcases hv with ⟨rfl, hnil⟩ | ⟨g, cap, cur, rfl, hg, g1, g2, g3, g4⟩
      · have hq : q = 0 := by rw [hnil] at h3; simpa using h3
        subst hq
        have HN := Lib.hid hnil; clear hnil hb hok
        go_enter Tryz.func122, Tryz.ntmps122
        go_wp2_with (go_at_call 134; refine (may_any b d _ x _ HH.out).mono ?_; rw [H1.out]; rintro e w' ⟨rfl, rfl⟩)
        go_ret
        exact ⟨_, rfl, ⟨_, HB.out.set 1 _, .inl ⟨rfl, by simp⟩, rfl⟩, Upd.setCell (Upd.refl _ _) (.inl (.inl rfl)) _, From.refl _ _⟩
      · clear hb hok
        have HG := Lib.hid hg; clear hg
        have G4 := Lib.hid g4; clear g4
        go_enter Tryz.func122, Tryz.ntmps122
        go_wp2_with (go_at_call 134; refine (may_any b d _ x _ HH.out).mono ?_; rw [H1.out]; rintro e w' ⟨rfl, rfl⟩)
        go_ret
        exact ⟨_, rfl, ⟨_, HB.out.set 1 _, OwnB.upd (HV.out.cut h3) (Upd.setCell (F := fun k => k = b) (Upd.refl _ _) (.inl rfl) _) (OwnB.ne (HV.out.cut h3) HB.out (by decide)), rfl⟩, Upd.setCell (Upd.refl _ _) (.inl (.inl rfl)) _, From.refl _ _⟩
  · have e : d.cut x n = (d, 9) := by
      rw [Dsk.cut, if_pos]
      exact Classical.byContradiction fun h => h1 (by rw [Dsk.may, if_neg h])
    have e9 : d.may x = 9 := by
      unfold Dsk.may at h1 ⊢
      split
      · rfl
      · rename_i h; rw [if_neg h] at h1; exact absurd rfl h1
    rw [e]; clear e
    have H1 := Lib.hid e9; clear h1 e9 hb hv hok
    go_enter Tryz.func122, Tryz.ntmps122
    go_wp2_with (go_at_call 134; refine (may_any b d _ x _ HH.out).mono ?_; rw [H1.out]; rintro e w' ⟨rfl, rfl⟩)
    go_ret
    exact ⟨_, rfl, HH.out, Upd.refl _ _, From.refl _ _⟩

/-- A slice of bytes of one's own, of new memory. -/
def NewBytes (w : World) (l : List UInt8) (e : Ending) (w' : World) : Prop :=
  ∃ v, e = .returned v ∧ OwnB w' v l ∧ Below w.heap.size w w' ∧ ∀ k, v.ownBlock = some k → w.heap.size ≤ k

theorem clone_any (v : Value) (l : List UInt8) (w : World) (h : BytesAt w v l) (hl : l.length ≤ 140737488355328) :
    Calls Tryz.prog 76 #[v] w (NewBytes w l) := by
  have HH := Lib.hid h
  obtain ⟨a, c, rfl, h1, h2, h3, h4⟩ := h
  cases a with
  | none =>
    obtain rfl := h3 rfl
    have e : l = [] := List.eq_nil_of_length_eq_zero (by omega)
    subst e
    clear h1 h2 h3 h4
    have hn := fun (w : World) a n c => Lib.run_eql_slice_nil (P := Tryz.prog) w 42 5 a n c 0 0 Tryz.underlying42
    go_enter Tryz.func76, Tryz.ntmps76
    go_wp2
    go_ret
    exact ⟨_, rfl, OwnB.nil _, Below.refl _ _, by simp [Value.ownBlock]⟩
  | some a =>
    clear h3 h4
    have hn := fun (w : World) a n c => Lib.run_eql_slice_nil (P := Tryz.prog) w 42 5 a n c 0 0 Tryz.underlying42
    have hb : OwnB (w.alloc (.cells #[] 5)) (.slice (some ⟨w.heap.size, 0, none⟩) 0 0) [] := .inr ⟨_, 0, [], rfl, BlockAt.new w 5 [], Nat.le_refl _, Nat.le_refl _, Nat.zero_le _, rfl⟩
    have HB := Lib.hid hb; clear hb
    have hy : BytesAt (w.alloc (.cells #[] 5)) (.slice (some a) l.length c) l := HH.out.upd (Upd.alloc (F := fun _ => False) (Upd.refl _ w) _) (fun _ _ h => h)
    have HY := Lib.hid hy; clear hy
    obtain ⟨i0, hi, hz0, hz1, hz2⟩ := info_parts Tryz.infoU8
    go_enter Tryz.func76, Tryz.ntmps76
    go_wp2_with (at_builtin; refine wpList_append_bytes (v := .slice (some ⟨w.heap.size, 0, none⟩) 0 0) (l := []) (m := l) rfl _ _ 42 rfl 5 i0 Tryz.underlying42 hi hz0 hz1 hz2 rfl rfl rfl HB.out HY.out (by simpa using hl) ?_; intro v' w' hv' hu hfr)
    go_ret
    exact ⟨_, rfl, hv', ((Upd.alloc (F := fun _ => False) (Upd.refl _ w) (.cells #[] 5)).trans hu (fun k hk => by simp [Value.ownBlock] at hk; omega)).below (Nat.le_refl _) (fun _ h => h.elim), fun k hk => by
      rcases hfr k hk with h | h
      · simp [Value.ownBlock] at h; omega
      · simp at h; omega⟩

theorem bytes_any (b : Nat) (d : Dsk) (F : Nat → Prop) (w : World) (h : DiskAt w b d F) (hok : d.Ok) :
    Calls Tryz.prog 52 #[.pointer (some ⟨b, 0, none⟩)] w (NewBytes w d.b) := by
  obtain ⟨v, hb, hv, rfl⟩ := h
  have c := hb.cells
  have hl := hok.b
  have HV := Lib.hid hv.bytes
  obtain ⟨a, vc, rfl, _⟩ := hv.bytes
  clear hb hv hok
  go_enter Tryz.func52, Tryz.ntmps52
  go_wp2_with fail
  refine (clone_any _ d.b _ HV.out (by omega)).mono ?_
  rintro e w' ⟨v', rfl, h1, h2, h3⟩
  go_wp2
  go_ret
  exact ⟨_, rfl, h1, h2, h3⟩

/-- A Plate, at the head of a block of a type that may have more behind it. -/
def PlateAt (w : World) (b : Nat) (ty : TypeId) (rest : List Value) (d : Dsk) (F : Nat → Prop) : Prop :=
  ty ≠ 5 ∧ ∃ v, BlockAt w b ty (.int .i64 d.ep :: v :: rest) ∧ OwnB w v d.b ∧ F = fun k => k = b ∨ v.ownBlock = some k
theorem PlateAt.inW {w : World} {b : Nat} {ty : TypeId} {rest : List Value} {d : Dsk} {F : Nat → Prop} (h : PlateAt w b ty rest d F) : In w F := by
  obtain ⟨_, v, hb, hv, rfl⟩ := h
  rintro k (rfl | hk)
  · exact hb.lt
  · exact hv.lt hk
theorem PlateAt.upd {G : Nat → Prop} {w w' : World} {b : Nat} {ty : TypeId} {rest : List Value} {d : Dsk} {F : Nat → Prop} (h : PlateAt w b ty rest d F) (hu : Upd G w w') (hs : Sep F G) : PlateAt w' b ty rest d F := by
  obtain ⟨ht, v, hb, hv, rfl⟩ := h
  exact ⟨ht, v, hb.upd hu (hs b (.inl rfl)), hv.upd hu fun k hk => hs k (.inr hk), rfl⟩
def PlatePost (w : World) (b : Nat) (ty : TypeId) (rest : List Value) (F : Nat → Prop) (d : Dsk) (v : Value) (e : Ending) (w' : World) : Prop :=
  ∃ F', e = .returned v ∧ PlateAt w' b ty rest d F' ∧ Upd F w w' ∧ From w F F'

theorem praise_any (b : Nat) (ty : TypeId) (rest : List Value) (d : Dsk) (F : Nat → Prop) (w : World) (h : PlateAt w b ty rest d F) (hok : d.Ok) :
    Calls Tryz.prog 89 #[.pointer (some ⟨b, 0, none⟩)] w (PlatePost w b ty rest F d.raise.1 (.tuple #[.int .i64 d.raise.2.1, .int .i64 d.raise.2.2])) := by
  have HH := Lib.hid h
  obtain ⟨hty, v, hb, hv, rfl⟩ := h
  have c0 := hb.cell 0 _ rfl
  have f := hb.frees
  have h0 := hok.ep.1
  have h1 := hok.ep.2
  have HB := Lib.hid hb
  have HV := Lib.hid hv
  have HT := Lib.hid hty
  clear hb hv hok hty
  by_cases hr : 100 ≤ d.ep
  · have e : d.raise = (d, 0, 8) := by simp [Dsk.raise, hr]
    rw [e]; clear e
    go_enter Tryz.func89, Tryz.ntmps89
    go_wp2
    go_ret2
    exact ⟨_, rfl, HH.out, Upd.refl _ _, From.refl _ _⟩
  · have e : d.raise = (⟨d.ep + 1, d.b⟩, d.ep + 1, 0) := by simp [Dsk.raise, hr]
    rw [e]; clear e
    go_enter Tryz.func89, Tryz.ntmps89
    go_wp2
    go_ret2
    exact ⟨_, rfl, ⟨HT.out, v, HB.out.set 0 _, HV.out.upd (Upd.setCell (F := fun k => k = b) (Upd.refl _ w) (.inl rfl) _) (HV.out.ne HB.out HT.out), rfl⟩, Upd.setCell (Upd.refl _ _) (.inl (.inl rfl)) _, From.refl _ _⟩

set_option maxHeartbeats 1000000 in
theorem pappend_any (b : Nat) (ty : TypeId) (rest : List Value) (d : Dsk) (F : Nat → Prop) (x : Int) (y : Value) (m : List UInt8) (w : World) (h : PlateAt w b ty rest d F) (hok : d.Ok) (hy : BytesAt w y m) (hm : m.length ≤ 100000) :
    Calls Tryz.prog 95 #[.pointer (some ⟨b, 0, none⟩), .int .i64 x, y] w (PlatePost w b ty rest F (d.append x m).1 (.int .i64 (d.append x m).2)) := by
  have HH := Lib.hid h
  have HY := Lib.hid hy
  obtain ⟨hty, v, hb, hv, rfl⟩ := h
  have HB := Lib.hid hb
  have HV := Lib.hid hv
  have HT := Lib.hid hty
  have c0 := hb.cell 0 _ rfl
  have c1 := hb.cell 1 _ rfl
  have f := hb.frees
  have hl := hok.b
  obtain ⟨va, vc, rfl, _⟩ : ∃ a c, v = .slice a d.b.length c ∧ True := by obtain ⟨a, c, h, _⟩ := hv.bytes; exact ⟨a, c, h, trivial⟩
  obtain ⟨ya, yc, rfl, _⟩ : ∃ a c, y = .slice a m.length c ∧ True := by obtain ⟨a, c, h, _⟩ := hy; exact ⟨a, c, h, trivial⟩
  clear hb hv hok hy hty
  by_cases h1 : x < 1
  · have e : d.append x m = (d, 9) := by rw [Dsk.append, if_pos (.inl h1)]
    rw [e]; clear e
    go_enter Tryz.func95, Tryz.ntmps95
    go_wp2
    go_ret
    exact ⟨_, rfl, HH.out, Upd.refl _ _, From.refl _ _⟩
  · by_cases h2 : x = d.ep
    · have hx : ¬ (x < 1 ∨ x ≠ d.ep) := by omega
      have h3 : (x != d.ep) = false := by simpa using h2
      clear h2
      by_cases h4 : 1500 < d.b.length + m.length
      · have e : d.append x m = (d, 8) := by rw [Dsk.append, if_neg hx, if_pos h4]
        rw [e]; clear e hx
        go_enter Tryz.func95, Tryz.ntmps95
        go_wp2
        go_ret
        exact ⟨_, rfl, HH.out, Upd.refl _ _, From.refl _ _⟩
      · have e : d.append x m = (⟨d.ep, d.b ++ m⟩, 0) := by rw [Dsk.append, if_neg hx, if_neg h4]
        rw [e]; clear e hx
        obtain ⟨i0, hi, hz0, hz1, hz2⟩ := info_parts Tryz.infoU8
        have HN := Lib.hid (OwnB.nil w)
        go_enter Tryz.func95, Tryz.ntmps95
        go_wp2_with (first | (at_builtin; refine wpList_append_bytes (v := .slice none 0 0) (l := []) (m := d.b) rfl _ _ 42 rfl 5 i0 Tryz.underlying42 hi hz0 hz1 hz2 rfl rfl rfl HN.out HV.out.bytes (by simp; omega) ?_; intro v1 w1 hv1 hu1 hf1; have HV1 := Lib.hid hv1; have HU1 := Lib.hid hu1; have HF1 := Lib.hid hf1; have HB1 := Lib.hid (HB.out.upd hu1 (fun h => by simp [Value.ownBlock] at h)); have HY1 := Lib.hid (HY.out.upd hu1 (fun _ _ h => by simp [Value.ownBlock] at h)); clear hv1 hu1 hf1 c0 c1 f) | (at_builtin; refine wpList_append_bytes (v := v1) (l := [] ++ d.b) (m := m) rfl _ _ 42 rfl 5 i0 Tryz.underlying42 hi hz0 hz1 hz2 rfl rfl rfl HV1.out HY1.out (by simp; omega) ?_; intro v2 w2 hv2 hu2 hf2; have hb2 := HB1.out.upd hu2 (fun hk => by rcases HF1.out b hk with h | h; exact absurd h (by simp [Value.ownBlock]); exact absurd HB.out.lt (by omega)); have c2 := hb2.cell 0 _ rfl; have c3 := hb2.cell 1 _ rfl; have f2 := hb2.frees; rw [List.nil_append] at hv2; obtain ⟨va', vc', e', _⟩ := hv2.bytes; rw [List.length_append] at e'; subst e'; have HB2 := Lib.hid hb2; have HV2 := Lib.hid hv2; have HU2 := Lib.hid hu2; have HF2 := Lib.hid hf2; clear hb2 hv2 hu2 hf2))
        go_ret
        refine ⟨_, rfl, ⟨HT.out, _, HB2.out.set 1 _, HV2.out.upd (Upd.setCell (F := fun k => k = b) (Upd.refl _ _) (.inl rfl) _) (HV2.out.ne HB2.out HT.out), rfl⟩, Upd.setCell ?_ (.inl (.inl rfl)) _, ?_⟩
        · refine (HU1.out.mono fun k hk => ?_).trans HU2.out fun k hk => ?_
          · simp [Value.ownBlock] at hk
          · rcases HF1.out k hk with h | h
            · simp [Value.ownBlock] at h
            · exact .inr h
        · rintro k (rfl | hk)
          · exact .inl (.inl rfl)
          · rcases HF2.out k hk with h | h
            · rcases HF1.out k h with h | h
              · simp [Value.ownBlock] at h
              · exact .inr h
            · have := HU1.out.size; exact .inr (by omega)
    · have e : d.append x m = (d, 9) := by rw [Dsk.append, if_pos (.inr h2)]
      rw [e]; clear e
      have h3 : (x != d.ep) = true := by simpa using h2
      clear h2
      go_enter Tryz.func95, Tryz.ntmps95
      go_wp2
      go_ret
      exact ⟨_, rfl, HH.out, Upd.refl _ _, From.refl _ _⟩

set_option maxHeartbeats 1000000 in
theorem pcut_any (b : Nat) (ty : TypeId) (rest : List Value) (d : Dsk) (F : Nat → Prop) (x n : Int) (w : World) (h : PlateAt w b ty rest d F) (hok : d.Ok) :
    Calls Tryz.prog 91 #[.pointer (some ⟨b, 0, none⟩), .int .i64 x, .int .i64 n] w (PlatePost w b ty rest F (d.cut x n).1 (.int .i64 (d.cut x n).2)) := by
  have HH := Lib.hid h
  obtain ⟨hty, v, hb, hv, rfl⟩ := h
  have HB := Lib.hid hb
  have HV := Lib.hid hv
  have HT := Lib.hid hty
  have c0 := hb.cell 0 _ rfl
  have c1 := hb.cell 1 _ rfl
  have f := hb.frees
  have hl := hok.b
  by_cases h1 : x < 1
  · have e : d.cut x n = (d, 9) := by rw [Dsk.cut, if_pos (.inl h1)]
    rw [e]; clear e
    clear hb hv hok hty
    go_enter Tryz.func91, Tryz.ntmps91
    go_wp2
    go_ret
    exact ⟨_, rfl, HH.out, Upd.refl _ _, From.refl _ _⟩
  · by_cases h2 : x = d.ep
    · have hx : ¬ (x < 1 ∨ x ≠ d.ep) := by omega
      have h3 : (x != d.ep) = false := by simpa using h2
      clear h2
      by_cases h4 : n < 0 ∨ (d.b.length : Int) < n
      · have e : d.cut x n = (d, 3) := by rw [Dsk.cut, if_neg hx, if_pos h4]
        rw [e]; clear e hx
        obtain ⟨va, vc, rfl, _⟩ : ∃ a c, v = .slice a d.b.length c ∧ True := by obtain ⟨a, c, h, _⟩ := hv.bytes; exact ⟨a, c, h, trivial⟩
        clear hb hv hok hty
        rcases h4 with h4 | h4
        · go_enter Tryz.func91, Tryz.ntmps91
          go_wp2
          go_ret
          exact ⟨_, rfl, HH.out, Upd.refl _ _, From.refl _ _⟩
        · have h5 : ¬ n < 0 := by omega
          go_enter Tryz.func91, Tryz.ntmps91
          go_wp2
          go_ret
          exact ⟨_, rfl, HH.out, Upd.refl _ _, From.refl _ _⟩
      · have e : d.cut x n = (⟨d.ep, d.b.take n.toNat⟩, 0) := by rw [Dsk.cut, if_neg hx, if_neg h4]
        rw [e]; clear e hx
        obtain ⟨q, rfl⟩ := Int.eq_ofNat_of_zero_le (show 0 ≤ n by omega)
        have h5 : q ≤ d.b.length := by omega
        clear h4
        rw [Int.toNat_natCast]
        rcases hv with ⟨rfl, hnil⟩ | ⟨g, cap, cur, rfl, hg, g1, g2, g3, g4⟩
        · have hq : q = 0 := by rw [hnil] at h5; simpa using h5
          subst hq
          have HN := Lib.hid hnil; clear hnil hb hok hty
          go_enter Tryz.func91, Tryz.ntmps91
          go_wp2
          go_ret
          exact ⟨_, rfl, ⟨HT.out, _, HB.out.set 1 _, .inl ⟨rfl, by simp⟩, rfl⟩, Upd.setCell (Upd.refl _ _) (.inl (.inl rfl)) _, From.refl _ _⟩
        · clear hb hok hty
          have HG := Lib.hid hg; clear hg
          have G4 := Lib.hid g4; clear g4
          go_enter Tryz.func91, Tryz.ntmps91
          go_wp2
          go_ret
          exact ⟨_, rfl, ⟨HT.out, _, HB.out.set 1 _, OwnB.upd (HV.out.cut h5) (Upd.setCell (F := fun k => k = b) (Upd.refl _ _) (.inl rfl) _) (OwnB.ne (HV.out.cut h5) HB.out HT.out), rfl⟩, Upd.setCell (Upd.refl _ _) (.inl (.inl rfl)) _, From.refl _ _⟩
    · have e : d.cut x n = (d, 9) := by rw [Dsk.cut, if_pos (.inr h2)]
      rw [e]; clear e
      have h3 : (x != d.ep) = true := by simpa using h2
      clear h2 hb hv hok hty
      go_enter Tryz.func91, Tryz.ntmps91
      go_wp2
      go_ret
      exact ⟨_, rfl, HH.out, Upd.refl _ _, From.refl _ _⟩

end Go.Proofs.YtfihmpkkpgmdhaaGreatDoor
