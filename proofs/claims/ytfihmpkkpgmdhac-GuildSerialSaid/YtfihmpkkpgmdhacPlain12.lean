/-
  Plain law of GuildTries: what was answered to those that took jobs, torn orders between.
-/
import Derived.Test.YtfihmpkkpgmdhacPlainM
namespace Go.Proofs.Ytfihmpkkpgmdhac
set_option linter.unusedVariables false
structure GTries (t : Tbl) (tries workers done : Nat → Int) : Prop where
  tr : ∀ n, n < 6 → 0 ≤ tries n ∧ tries n ≤ (t.jobs n).tr
  wk : ∀ n, n < 6 → (t.jobs n).st = 2 → (t.jobs n).tr = tries n → (t.jobs n).wk = workers n
  d : ∀ n, n < 6 → 0 ≤ done n ∧ done n ≤ 1 ∧ (done n ≠ 0 → (t.jobs n).st = 3)
theorem GTries.zero : GTries Tbl.zero (fun _ => 0) (fun _ => 0) (fun _ => 0) :=
  ⟨fun n _ => ⟨Int.le_refl _, Int.le_refl _⟩, fun n _ h => by simp [Tbl.zero, Job.zero] at h, fun n _ => ⟨by omega, by omega, fun h => absurd rfl h⟩⟩
/-- Whatever is ordered, told or not. -/
theorem GTries.any {t : Tbl} {tries workers done : Nat → Int} (h : GTries t tries workers done) (hk : t.In) (o : Ord) : GTries (t.did o).1 tries workers done := by
  rcases did_shape t o with ⟨_, e, _⟩ | ⟨hc, i, hi, j', hd, h0, e, _⟩
  · rw [e]; exact h
  · rw [e]
    have hne : ∀ n, n < 6 → (0 ≤ tries n ∧ tries n ≤ (expire (max t.now o.now) (t.jobs n)).tr) ∧ ((expire (max t.now o.now) (t.jobs n)).st = 2 → (expire (max t.now o.now) (t.jobs n)).tr = tries n → (expire (max t.now o.now) (t.jobs n)).wk = workers n) := fun n hn => by
      rw [expire_tr]
      refine ⟨h.tr n hn, fun hs ht => ?_⟩
      rw [expire_wk hs]
      rw [(expire_held hs).1] at hs
      exact h.wk n hn hs ht
    have hdd : ∀ n, n < 6 → done n ≠ 0 → expire (max t.now o.now) (t.jobs n) = t.jobs n := fun n hn hd => expire_not (by have := (h.d n hn).2.2 hd; omega)
    obtain ⟨⟨hi1, hi2⟩, hi3⟩ := hne i hi
    have hdi : done i = 0 := by
      refine Classical.byContradiction fun hx => ?_
      have h3 := (h.d i hi).2.2 hx
      rw [hdd i hi hx] at hd
      cases hd with
      | take k s | add k _ s | renew k _ s | done k _ s | drop k _ s => omega
    refine ⟨fun n hn => ?_, fun n hn => ?_, fun n hn => ?_⟩
    · simp only [set_jobs, pass_jobs]
      split
      · rename_i hni; subst hni
        cases hd with
        | take k s ha => dsimp only; omega
        | add k hi' s ha =>
          have hz := (expire_ok (max t.now o.now) (hk.ok.jobs n)).ab s
          rw [hz] at hi2
          exact ⟨hi1, hi2⟩
        | renew k hi' s hw ht ha => exact ⟨hi1, hi2⟩
        | done k hi' s hw ht ha => exact ⟨hi1, hi2⟩
        | drop k hi' s hw ht ha => rw [expire_tr]; exact ⟨hi1, hi2⟩
      · exact (hne n hn).1
    · simp only [set_jobs, pass_jobs]
      split
      · rename_i hni; subst hni
        cases hd with
        | take k s ha => dsimp only; intro _ h; omega
        | add k hi' s ha => intro hs; simp at hs
        | renew k hi' s hw ht ha => intro _ h; exact hi3 s h
        | done k hi' s hw ht ha => intro hs; simp at hs
        | drop k hi' s hw ht ha => intro hs; have := (expire_held hs).2; dsimp only at this; omega
      · exact (hne n hn).2
    · refine ⟨(h.d n hn).1, (h.d n hn).2.1, fun hx => ?_⟩
      simp only [set_jobs, pass_jobs]
      split
      · rename_i hni; subst hni; exact absurd hdi hx
      · rw [hdd n hn hx]; exact (h.d n hn).2.2 hx
theorem GTries.take {t : Tbl} {tries workers done : Nat → Int} (h : GTries t tries workers done) (hk : t.In) {o : Ord} (h2 : o.kind = 2) (h0 : (t.did o).2.code = 0) :
    ∃ i : Nat, i < 6 ∧ (t.did o).2.job = i ∧ tries i < (t.did o).2.tr ∧ 0 ≤ (t.did o).2.tr ∧ (t.did o).2.tr ≤ 3 ∧ done i = 0 ∧ GTries (t.did o).1 (upd tries i (t.did o).2.tr) (upd workers i o.wk) done := by
  have hall := h.any hk o
  rcases did_shape t o with ⟨e0, _⟩ | ⟨hc, i, hi, j', hd, _, e, _⟩
  · exact absurd h0 e0
  · rw [e] at hall ⊢
    have hdd : ∀ n, n < 6 → done n ≠ 0 → expire (max t.now o.now) (t.jobs n) = t.jobs n := fun n hn hd => expire_not (by have := (h.d n hn).2.2 hd; omega)
    have hdi : done i = 0 := by
      refine Classical.byContradiction fun hx => ?_
      have h3 := (h.d i hi).2.2 hx
      rw [hdd i hi hx] at hd
      cases hd with
      | take k s | add k _ s | renew k _ s | done k _ s | drop k _ s => omega
    cases hd with
    | take k s ha =>
      have hok := expire_ok (max t.now o.now) (hk.ok.jobs i)
      have hwt := hok.wt s
      have htr := hok.tr
      rw [expire_tr] at hwt htr
      have h1 := h.tr i hi
      rw [ha]
      dsimp only
      rw [expire_tr] at hall ⊢
      refine ⟨i, hi, rfl, by omega, by omega, by omega, hdi, fun n hn => ?_, fun n hn => ?_, hall.d⟩
      · have hx := hall.tr n hn
        simp only [set_jobs, pass_jobs, upd] at hx ⊢
        by_cases hni : n = i
        · subst hni; rw [if_pos rfl, if_pos rfl]; dsimp only; omega
        · rw [if_neg hni] at hx ⊢; rw [if_neg hni]; exact hx
      · have hx := hall.wk n hn
        simp only [set_jobs, pass_jobs, upd] at hx ⊢
        by_cases hni : n = i
        · subst hni; simp
        · rw [if_neg hni] at hx ⊢; rw [if_neg hni, if_neg hni]; exact hx
    | add k | renew k | done k | drop k => omega
theorem GTries.done {t : Tbl} {tries workers done : Nat → Int} (h : GTries t tries workers done) (hk : t.In) {o : Ord} (h2 : o.kind = 4) (h0 : (t.did o).2.code = 0) :
    ∃ i : Nat, i < 6 ∧ o.job = i ∧ done i = 0 ∧ tries i ≤ o.tr ∧ (o.tr = tries i → o.wk = workers i) ∧ GTries (t.did o).1 tries workers (upd done i 1) := by
  have hall := h.any hk o
  rcases did_shape t o with ⟨e0, _⟩ | ⟨hc, i, hi, j', hd, _, e, _⟩
  · exact absurd h0 e0
  · rw [e] at hall ⊢
    cases hd with
    | done k hi' s hw ht ha =>
      obtain ⟨ex, _⟩ := expire_held s
      rw [ex] at hw ht s
      have hd0 : done i = 0 := by
        refine Classical.byContradiction fun hx => ?_
        have := (h.d i hi).2.2 hx
        omega
      have h1 := h.tr i hi
      refine ⟨i, hi, hi'.symm, hd0, by omega, fun hx => by rw [← hw]; exact h.wk i hi s (by omega), hall.tr, hall.wk, fun n hn => ?_⟩
      have hx := hall.d n hn
      simp only [set_jobs, pass_jobs, upd] at hx ⊢
      by_cases hni : n = i
      · subst hni; simp
      · rw [if_neg hni] at hx ⊢; rw [if_neg hni]; exact hx
    | take k | add k | renew k | drop k => omega
/-- What a step of the guild does to it. -/
theorem GTries.step {g : Gld} {l : List Rec} {x : Stp} {g' : Gld} {a : Ans} {l' : List Rec} {tries workers done : Nat → Int} (h : GTries (behind l) tries workers done) (s : Stepped g x l g' a l') : GTries (behind l') tries workers done := by
  rcases s.grew with e | ⟨n, _, _, _, _, _, _, e⟩
  · rw [e]; exact h
  · rw [e, behind_snoc]; exact h.any (behind_in l) _
theorem GTries.stepTake {g : Gld} {l : List Rec} {x : Stp} {g' : Gld} {a : Ans} {l' : List Rec} {tries workers done : Nat → Int} (h : GTries (behind l) tries workers done) (s : Stepped g x l g' a l') (hx : x.kind = 2) (ho : x.o.kind = 2) (h0 : a.code = 0) :
    ∃ i : Nat, i < 6 ∧ a.job = i ∧ tries i < a.tr ∧ 0 ≤ a.tr ∧ a.tr ≤ 3 ∧ done i = 0 ∧ GTries (behind l') (upd tries i a.tr) (upd workers i x.o.wk) done := by
  obtain ⟨⟨n, _, _, e⟩, ha⟩ := s.order hx h0
  rw [e, behind_snoc]
  subst ha
  exact h.take (o := x.o.at g.now) (behind_in l) ho h0
theorem GTries.stepDone {g : Gld} {l : List Rec} {x : Stp} {g' : Gld} {a : Ans} {l' : List Rec} {tries workers done : Nat → Int} (h : GTries (behind l) tries workers done) (s : Stepped g x l g' a l') (hx : x.kind = 2) (ho : x.o.kind = 4) (h0 : a.code = 0) :
    ∃ i : Nat, i < 6 ∧ x.o.job = i ∧ done i = 0 ∧ tries i ≤ x.o.tr ∧ (x.o.tr = tries i → x.o.wk = workers i) ∧ GTries (behind l') tries workers (upd done i 1) := by
  obtain ⟨⟨n, _, _, e⟩, ha⟩ := s.order hx h0
  rw [e, behind_snoc]
  subst ha
  exact h.done (o := x.o.at g.now) (behind_in l) ho h0
end Go.Proofs.Ytfihmpkkpgmdhac
