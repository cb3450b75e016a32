/-
  Plain laws: a crew: nodes of one disk, in a list; the laws of nodes.
-/
import Derived.Test.YtfihmpkkpgmdhacPlain12
namespace Go.Proofs.Ytfihmpkkpgmdhac
set_option linter.unusedVariables false
def fOf (ns : List Nod) : Nat → Option Nod := fun i => ns[i]?
theorem fOf_set (ns : List Nod) {i : Nat} (hi : i < ns.length) (n : Nod) : putN (fOf ns) i n = fOf (ns.set i n) := by
  funext k
  unfold putN fOf
  rw [List.getElem?_set]
  by_cases h : k = i
  · subst h; simp [hi]
  · rw [if_neg h, if_neg (fun e => h e.symm)]
theorem fOf_snoc (ns : List Nod) (n : Nod) : putN (fOf ns) ns.length n = fOf (ns ++ [n]) := by
  funext k
  unfold putN fOf
  by_cases h : k = ns.length
  · subst h; simp
  · rw [if_neg h]
    by_cases h2 : k < ns.length
    · rw [List.getElem?_append_left h2]
    · rw [List.getElem?_eq_none (by omega), List.getElem?_eq_none (by simp; omega)]
structure Crw where
  d : Dsk
  ns : List Nod
def Crw.Good (c : Crw) : Prop := (∃ l, Fam c.d (fOf c.ns) l) ∧ c.ns.length ≤ 8
theorem Crw.Good.dok {c : Crw} (h : c.Good) : c.d.Ok := h.1.elim fun _ h => h.ok
theorem Crw.Good.node {c : Crw} (h : c.Good) {i : Nat} {n : Nod} (hi : c.ns[i]? = some n) : 1 ≤ n.ep ∧ n.ep ≤ c.d.ep ∧ n.t.Ok := by
  obtain ⟨l, h⟩ := h.1
  have := h.sv i n hi
  exact ⟨this.1.1, this.1.2, this.2.1.ok⟩
theorem Crw.Good.order {c : Crw} (h : c.Good) {i : Nat} {n : Nod} (hi : c.ns[i]? = some n) (o : Ord) : (⟨(n.order c.d o 9).1, c.ns.set i (n.order c.d o 9).2.1⟩ : Crw).Good := by
  obtain ⟨⟨l, h⟩, h8⟩ := h
  have hl := (List.getElem?_eq_some_iff.1 hi).1
  refine ⟨?_, by simpa using h8⟩
  dsimp only
  rw [← fOf_set _ hl]
  obtain ⟨_, _, hc⟩ := h.order hi o
  rcases hc with ⟨_, hd, _, _, hf, _⟩ | ⟨_, _, _, _, _, hf⟩
  · rw [hd]; exact ⟨_, hf⟩
  · exact ⟨_, hf⟩
theorem Crw.Good.tear {c : Crw} (h : c.Good) {i : Nat} {n : Nod} (hi : c.ns[i]? = some n) (o : Ord) (kp : Int) : (⟨(n.tear c.d o (keepN kp)).1, c.ns.set i (n.tear c.d o (keepN kp)).2.1⟩ : Crw).Good := by
  obtain ⟨⟨l, h⟩, h8⟩ := h
  have hl := (List.getElem?_eq_some_iff.1 hi).1
  refine ⟨?_, by simpa using h8⟩
  dsimp only
  rw [← fOf_set _ hl]
  obtain ⟨_, _, hc⟩ := h.tear hi o (keepN_le kp)
  rcases hc with ⟨_, hd, hf, _⟩ | ⟨_, _, _, _, _, _, hf⟩
  · rw [hd]; exact ⟨_, hf⟩
  · rcases hf with ⟨_, hf⟩ | ⟨_, hf⟩
    · exact ⟨_, hf⟩
    · exact ⟨_, hf⟩
theorem Crw.Good.stop {c : Crw} (h : c.Good) {i : Nat} {n : Nod} (hi : c.ns[i]? = some n) : (⟨c.d, c.ns.set i ⟨n.t, n.ep, true⟩⟩ : Crw).Good := by
  obtain ⟨⟨l, h⟩, h8⟩ := h
  have hl := (List.getElem?_eq_some_iff.1 hi).1
  refine ⟨?_, by simpa using h8⟩
  dsimp only
  rw [← fOf_set _ hl]
  exact ⟨_, h.stop hi⟩
theorem Crw.Good.openKeep {c : Crw} (h : c.Good) (hc : ¬ 100 ≤ c.d.ep) (h8 : c.ns.length < 8) : (⟨(opened c.d).1, c.ns ++ [⟨behind (found c.d), c.d.ep + 1, false⟩]⟩ : Crw).Good := by
  obtain ⟨⟨l, h⟩, _⟩ := h
  refine ⟨?_, by simp; omega⟩
  dsimp only
  rw [← fOf_snoc]
  exact ⟨_, h.open hc _⟩
theorem Crw.Good.openNo {c : Crw} (h : c.Good) (hc : ¬ 100 ≤ c.d.ep) : (⟨(opened c.d).1, c.ns⟩ : Crw).Good := by
  obtain ⟨⟨l, h⟩, h8⟩ := h
  exact ⟨⟨_, h.openNo hc⟩, h8⟩
theorem Crw.empty_good {d : Dsk} (h : d.Ok) : (⟨d, []⟩ : Crw).Good := by
  refine ⟨⟨[], ?_⟩, by simp⟩
  have : fOf [] = fun _ => none := by funext k; simp [fOf]
  show Fam d (fOf []) []
  rw [this]
  exact Fam.empty h []
theorem newCrew_disk {b : List UInt8} (h : b.length ≤ 1400) : Dsk.zero.raise = (⟨1, []⟩, 1, 0) ∧ (⟨1, []⟩ : Dsk).append 1 b = (⟨1, b⟩, 0) ∧ (⟨1, []⟩ : Dsk).Ok ∧ (⟨1, b⟩ : Dsk).Ok := by
  refine ⟨by simp [Dsk.raise, Dsk.zero], ?_, ⟨by simp, by simp⟩, ⟨by simp, by dsimp only; omega⟩⟩
  unfold Dsk.append
  rw [if_neg (by simp), if_neg (by simp; omega)]
  simp
/-- A node that was fenced: an order, and a tear behind it. -/
theorem order_fenced {d : Dsk} {n : Nod} (h : n.ep ≠ d.ep) (o : Ord) (k : Nat) : ∃ c, (c = 9 ∨ c = 10) ∧ n.order d o k = (d, ⟨n.t, n.ep, true⟩, ⟨c, 0, 0⟩) := by
  unfold Nod.order
  obtain ⟨t, ep, dn⟩ := n
  cases dn with
  | true => exact ⟨10, .inr rfl, by rw [if_pos rfl]⟩
  | false => exact ⟨9, .inl rfl, by rw [if_neg (by simp), if_pos h]⟩
theorem tear_down (d : Dsk) (t : Tbl) (ep : Int) (o : Ord) (k : Nat) : (⟨t, ep, true⟩ : Nod).tear d o k = (d, ⟨t, ep, true⟩, 10) := by
  unfold Nod.tear Nod.order
  simp
/-- NodeTears. -/
theorem tears_law {d : Dsk} (hd : d.Ok) (hc : ¬ 100 ≤ d.ep) (o : Ord) (kp : Int) {d1 x1 : Dsk} {n x2 : Nod} {c : Int} (h1 : (opened d).1 = d1) (hn : n = ⟨behind (found d), d.ep + 1, false⟩) (hx : n.tear d1 o (keepN kp) = (x1, x2, c)) :
    d1.Ok ∧ x1.Ok ∧ allB d1.b = found d ∧ x2.ep = d.ep + 1 ∧ (¬ 100 ≤ x1.ep → (opened x1).1.Ok ∧ allB (opened x1).1.b = found x1) ∧
    (c ≠ 0 → (c = ((behind (found d)).did o).2.code ∨ c = 8) ∧ found x1 = found d ∧ x2.down = false) ∧
    (c = 0 → x2.down = true ∧ ((behind (found d)).did o).2.code = 0 ∧ (kp < 9 → found x1 = found d) ∧ (9 ≤ kp → found x1 = found d ++ [⟨d.ep + 1, o⟩])) := by
  have hfam := (Fam.empty hd (found d)).open hc 0
  rw [h1, ← hn] at hfam
  have hi : putN (fun _ => none) 0 n 0 = some n := by simp [putN]
  have he1 : d1.ep = d.ep + 1 := by rw [← h1, opened_yes hc]
  have hall : allB d1.b = found d := (hfam.wh ⟨0, n, hi⟩).all
  obtain ⟨e1, e2, hcase⟩ := hfam.tear hi o (keepN_le kp)
  rw [hx] at e1 e2 hcase
  dsimp only at e1 e2 hcase
  have hep : n.ep = d.ep + 1 := by rw [hn]
  have hdn : n.down = false := by rw [hn]
  have hfx : ∀ l f, Fam x1 f l → x1.Ok ∧ (¬ 100 ≤ x1.ep → (opened x1).1.Ok ∧ allB (opened x1).1.b = found x1) := fun l f hf => ⟨hf.ok, fun hx => ⟨opened_ok hf.ok hx, (whole_opened hx).all⟩⟩
  have hkp : kp < 9 → keepN kp < 9 := by unfold keepN; omega
  have hkp9 : 9 ≤ kp → keepN kp = 9 := by unfold keepN; omega
  rcases hcase with ⟨c0, rfl, hf, h8, hdw⟩ | ⟨c0, hdw, _, _, hcode, hchk, hf⟩
  · have h2 := hdw (by omega) hdn
    refine ⟨hfam.ok, (hfx _ _ hf).1, hall, by omega, (hfx _ _ hf).2, fun _ => ⟨(h8 h2).symm, ?_, h2⟩, fun e => absurd e c0⟩
    exact hf.found ⟨0, x2, by simp [putN]⟩
  · rcases hf with ⟨hk, hf⟩ | ⟨hk, hf⟩
    · refine ⟨hfam.ok, (hfx _ _ hf).1, hall, by omega, (hfx _ _ hf).2, fun e => absurd c0 e, fun _ => ⟨hdw, hcode, fun _ => hf.found ⟨0, x2, by simp [putN]⟩, fun h => ?_⟩⟩
      have := hkp9 h; omega
    · refine ⟨hfam.ok, (hfx _ _ hf).1, hall, by omega, (hfx _ _ hf).2, fun e => absurd c0 e, fun _ => ⟨hdw, hcode, fun h => ?_, fun _ => ?_⟩⟩
      · have := hkp h; omega
      · rw [← hep]; exact hf.found ⟨0, x2, by simp [putN]⟩
/-- NodeAnswers. -/
theorem answers_law {c : Crw} (h : c.Good) {i : Nat} {n : Nod} (hi : c.ns[i]? = some n) (o : Ord) {d' : Dsk} {n' : Nod} {a : Ans} (hx : n.order c.d o 9 = (d', n', a)) :
    n'.ep = n.ep ∧ d'.ep = c.d.ep ∧ (a.code ≠ 0 → d' = c.d ∧ a.job = 0 ∧ a.tr = 0) ∧ (a.code = 0 → a = ((behind (allB c.d.b)).did o).2 ∧ allB d'.b = allB c.d.b ++ [⟨n.ep, o⟩]) := by
  obtain ⟨⟨l, h⟩, h8⟩ := h
  have hl := (List.getElem?_eq_some_iff.1 hi).1
  obtain ⟨e1, e2, hc⟩ := h.order hi o
  rw [hx] at e1 e2 hc
  dsimp only at e1 e2 hc
  have hw : allB c.d.b = l := (h.wh ⟨i, n, hi⟩).all
  rw [hw]
  rcases hc with ⟨c0, hd, hj, ht, hf, _⟩ | ⟨c0, ha, _, _, _, hf⟩
  · exact ⟨e1, e2, fun _ => ⟨hd, hj, ht⟩, fun e => absurd e c0⟩
  · exact ⟨e1, e2, fun e => absurd c0 e, fun _ => ⟨ha, (hf.wh ⟨i, n', by simp [putN]⟩).all⟩⟩
/-- NodeAgain. -/
theorem again_law {c : Crw} (h : c.Good) {i : Nat} {n : Nod} (hi : c.ns[i]? = some n) (he : n.ep = c.d.ep) (hd : n.down = false) : n.t = behind (found c.d) := by
  obtain ⟨⟨l, h⟩, h8⟩ := h
  rw [h.found ⟨i, n, hi⟩]
  exact ((h.sv i n hi).2.2 he hd).2
theorem opened_all {d : Dsk} (hc : ¬ 100 ≤ d.ep) : allB (opened d).1.b = found d ∧ (opened d).1.b.length = 9 * (found d).length ∧ (opened d).1.ep = d.ep + 1 := by
  refine ⟨(whole_opened hc).all, ?_, ?_⟩
  · rw [opened_yes hc]; exact encAll_len _
  · rw [opened_yes hc]
end Go.Proofs.Ytfihmpkkpgmdhac
