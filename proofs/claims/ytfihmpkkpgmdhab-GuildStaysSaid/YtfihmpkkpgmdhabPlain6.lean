/-
  Plain laws: tables of jobs: what holds of all that is reached by orders.
-/
import Derived.Test.YtfihmpkkpgmdhabPlain5
namespace Go.Proofs.Ytfihmpkkpgmdhab
set_option linter.unusedVariables false

/-- Of a table that orders made: who has a job has it as some try, and for some time still. -/
structure Tbl.In (t : Tbl) : Prop where
  ok : t.Ok
  held : ∀ n, (t.jobs n).st = 2 → 1 ≤ (t.jobs n).tr ∧ t.now < (t.jobs n).un
theorem Tbl.zero_in : Tbl.zero.In := ⟨Tbl.zero_ok, fun n h => by simp [Tbl.zero, Job.zero] at h⟩
theorem expire_held {m : Int} {j : Job} (h : (expire m j).st = 2) : expire m j = j ∧ m < j.un := by
  unfold expire at *
  split at h
  · split at h <;> simp at h
  · rename_i h1
    rw [if_neg h1]
    exact ⟨rfl, by omega⟩
theorem expire_not {m : Int} {j : Job} (h : j.st ≠ 2) : expire m j = j := by
  unfold expire
  rw [if_neg (fun e => h e.1)]
theorem expire_tr (m : Int) (j : Job) : (expire m j).tr = j.tr := by
  unfold expire
  split
  · split <;> rfl
  · rfl
theorem expire_st (m : Int) (j : Job) : ((expire m j).st = j.st ∧ expire m j = j) ∨ (j.st = 2 ∧ j.un ≤ m ∧ (((expire m j).st = 1 ∧ j.tr < 3) ∨ ((expire m j).st = 4 ∧ 3 ≤ j.tr))) := by
  unfold expire
  split
  · rename_i h
    split <;> simp_all <;> omega
  · exact .inl ⟨rfl, rfl⟩
theorem set_now (t : Tbl) (i : Nat) (j : Job) : (t.set i j).now = t.now := rfl
theorem set_jobs (t : Tbl) (i k : Nat) (j : Job) : (t.set i j).jobs k = if k = i then j else t.jobs k := rfl
theorem pass_now (t : Tbl) (n : Int) : (t.pass n).now = max t.now n := rfl
theorem pass_jobs (t : Tbl) (n : Int) (k : Nat) : (t.pass n).jobs k = expire (max t.now n) (t.jobs k) := rfl
theorem did_in {t : Tbl} (h : t.In) (o : Ord) : (t.did o).1.In := by
  refine ⟨did_ok h.ok o, ?_⟩
  rcases did_shape t o with ⟨_, e, _⟩ | ⟨hc, i, hi, j', hd, _, e, _⟩
  · rw [e]; exact h.held
  · rw [e]
    intro n hn
    obtain ⟨c1, c2, c3, c4⟩ := chk_more hc
    simp only [set_now, set_jobs, pass_now, pass_jobs] at hn ⊢
    by_cases hni : n = i
    · subst hni
      simp only [if_true] at hn ⊢
      have hok := expire_ok (max t.now o.now) (h.ok.jobs n)
      have htr := hok.tr
      cases hd with
      | take k s ha => exact ⟨by dsimp only; omega, by have := c3 (.inl k); dsimp only; omega⟩
      | add k hi s ha => simp at hn
      | renew k hi s hw ht ha => exact ⟨by have := c4 (.inl k); dsimp only; omega, by have := c3 (.inr k); dsimp only; omega⟩
      | done k hi s hw ht ha => simp at hn
      | drop k hi s hw ht ha => have := (expire_held hn).2; dsimp only at this; omega
    · simp only [hni, if_false] at hn ⊢
      obtain ⟨e1, e2⟩ := expire_held hn
      rw [e1] at hn ⊢
      exact ⟨(h.held n hn).1, e2⟩

/-- JobsTries: what has been given. -/
structure Tries (t : Tbl) (tries workers : Nat → Int) : Prop where
  tr : ∀ n, n < 6 → (t.jobs n).tr = tries n
  wk : ∀ n, n < 6 → (t.jobs n).st = 2 → (t.jobs n).wk = workers n
def upd (f : Nat → Int) (i : Nat) (x : Int) : Nat → Int := fun k => if k = i then x else f k
theorem Tries.zero : Tries Tbl.zero (fun _ => 0) (fun _ => 0) := ⟨fun _ _ => rfl, fun n _ h => by simp [Tbl.zero, Job.zero] at h⟩
theorem expire_wk {m : Int} {j : Job} (h : (expire m j).st = 2) : (expire m j).wk = j.wk := by rw [(expire_held h).1]
theorem Tries.take {t : Tbl} {tries workers : Nat → Int} (h : Tries t tries workers) (hk : t.In) {o : Ord} (h2 : o.kind = 2) (h0 : (t.did o).2.code = 0) :
    ∃ i : Nat, i < 6 ∧ (t.did o).2.job = i ∧ (t.did o).2.tr = tries i + 1 ∧ tries i + 1 ≤ 3 ∧ 0 ≤ tries i ∧ Tries (t.did o).1 (upd tries i (tries i + 1)) (upd workers i o.wk) := by
  rcases did_shape t o with ⟨e0, _⟩ | ⟨hc, i, hi, j', hd, _, e, _⟩
  · exact absurd h0 e0
  · rw [e]
    cases hd with
    | take k s ha =>
      have hok := expire_ok (max t.now o.now) (hk.ok.jobs i)
      have hwt := hok.wt s
      have htr := hok.tr
      rw [expire_tr, h.tr i hi] at hwt htr
      rw [ha]
      dsimp only
      rw [expire_tr, h.tr i hi]
      refine ⟨i, hi, rfl, rfl, by omega, by omega, fun n hn => ?_, fun n hn => ?_⟩
      · simp only [set_jobs, pass_jobs, upd]
        split
        · rfl
        · rw [expire_tr, h.tr n hn]
      · simp only [set_jobs, pass_jobs, upd]
        split
        · intro _; rfl
        · intro hs
          rw [expire_wk hs]
          rw [(expire_held hs).1] at hs
          exact h.wk n hn hs
    | add k | renew k | done k | drop k => omega
theorem Tries.other {t : Tbl} {tries workers : Nat → Int} (h : Tries t tries workers) (hk : t.In) {o : Ord} (h2 : ¬ (o.kind = 2 ∧ (t.did o).2.code = 0)) :
    Tries (t.did o).1 tries workers := by
  rcases did_shape t o with ⟨_, e, _⟩ | ⟨hc, i, hi, j', hd, h0, e, _⟩
  · rw [e]; exact h
  · rw [e]
    have h2' : o.kind ≠ 2 := fun e => h2 ⟨e, h0⟩
    have hti := h.tr i hi
    have hwi := h.wk i hi
    refine ⟨fun n hn => ?_, fun n hn => ?_⟩
    · simp only [set_jobs, pass_jobs]
      split
      · rename_i hni; subst hni
        cases hd with
        | take k => omega
        | add k hi' s ha =>
          have hz := (expire_ok (max t.now o.now) (hk.ok.jobs n)).ab s
          have := expire_tr (max t.now o.now) (t.jobs n)
          rw [hz] at this
          simpa [Job.zero] using this.trans hti
        | renew k hi' s hw ht ha => dsimp only; rw [expire_tr, hti]
        | done k hi' s hw ht ha => dsimp only; rw [expire_tr, hti]
        | drop k hi' s hw ht ha => rw [expire_tr]; dsimp only; rw [expire_tr, hti]
      · rw [expire_tr, h.tr n hn]
    · simp only [set_jobs, pass_jobs]
      split
      · rename_i hni; subst hni
        cases hd with
        | take k => omega
        | add k hi' s ha => intro hs; simp at hs
        | renew k hi' s hw ht ha => intro _; dsimp only; rw [expire_wk s]; exact hwi (by rw [(expire_held s).1] at s; exact s)
        | done k hi' s hw ht ha => intro hs; simp at hs
        | drop k hi' s hw ht ha => intro hs; have := (expire_held hs).2; dsimp only at this; omega
      · intro hs
        rw [expire_wk hs]
        rw [(expire_held hs).1] at hs
        exact h.wk n hn hs

/-- JobsDone: how often each was done. -/
structure Dones (t : Tbl) (done : Nat → Int) : Prop where
  d : ∀ n, n < 6 → done n = 0 ∨ done n = 1
  iff : ∀ n, n < 6 → ((t.jobs n).st = 3 ↔ done n = 1)
theorem Dones.zero : Dones Tbl.zero (fun _ => 0) := ⟨fun _ _ => .inl rfl, fun n _ => by simp [Tbl.zero, Job.zero]⟩
theorem Dones.done {t : Tbl} {done : Nat → Int} (h : Dones t done) {o : Ord} (h2 : o.kind = 4) (h0 : (t.did o).2.code = 0) :
    ∃ i : Nat, i < 6 ∧ o.job = i ∧ done i = 0 ∧ ((t.did o).1.jobs i) = ⟨3, o.wk, o.tr, 0⟩ ∧ (t.jobs i).wk = o.wk ∧ (t.jobs i).tr = o.tr ∧ Dones (t.did o).1 (upd done i 1) := by
  rcases did_shape t o with ⟨e0, _⟩ | ⟨hc, i, hi, j', hd, _, e, _⟩
  · exact absurd h0 e0
  · rw [e]
    cases hd with
    | done k hi' s hw ht ha =>
      obtain ⟨ex, _⟩ := expire_held s
      rw [ex] at hw ht s
      have hd0 : done i = 0 := by
        rcases h.d i hi with h1 | h1
        · exact h1
        · have := (h.iff i hi).2 h1; omega
      refine ⟨i, hi, hi'.symm, hd0, ?_, hw, ht, fun n hn => ?_, fun n hn => ?_⟩
      · simp [set_jobs, ex, hw, ht]
      · unfold upd; split
        · exact .inr rfl
        · exact h.d n hn
      · simp only [set_jobs, pass_jobs, upd]
        split
        · simp
        · rcases expire_st (max t.now o.now) (t.jobs n) with ⟨_, e1⟩ | ⟨e1, _, e2⟩
          · rw [e1]; exact h.iff n hn
          · have := h.iff n hn
            constructor
            · intro h3; omega
            · intro h3; have := this.2 h3; omega
    | take k | add k | renew k | drop k => omega
theorem Dones.keeps {t : Tbl} (o : Ord) (n : Nat) (h : (t.jobs n).st = 3 ∨ (t.jobs n).st = 4) : (t.did o).1.jobs n = t.jobs n := by
  rcases did_shape t o with ⟨_, e, _⟩ | ⟨hc, i, hi, j', hd, _, e, _⟩
  · rw [e]
  · rw [e]
    have he : expire (max t.now o.now) (t.jobs n) = t.jobs n := expire_not (by omega)
    simp only [set_jobs, pass_jobs]
    split
    · rename_i hni; subst hni
      rw [he] at hd
      cases hd with
      | take k s | add k _ s | renew k _ s | done k _ s | drop k _ s => omega
    · exact he
theorem Dones.other {t : Tbl} {done : Nat → Int} (h : Dones t done) {o : Ord} (h2 : ¬ (o.kind = 4 ∧ (t.did o).2.code = 0)) : Dones (t.did o).1 done := by
  refine ⟨h.d, fun n hn => ?_⟩
  rcases did_shape t o with ⟨_, e, _⟩ | ⟨hc, i, hi, j', hd, h0, e, _⟩
  · rw [e]; exact h.iff n hn
  · rw [e]
    have hx3 : ∀ (m : Int) (j : Job), j.st ≠ 3 → (expire m j).st ≠ 3 := fun m j hm => by
      rcases expire_st m j with ⟨e1, _⟩ | ⟨e1, _, e2⟩ <;> omega
    have hn3 := fun m : Int => hx3 m (t.jobs n)
    by_cases h3 : (t.jobs n).st = 3
    · have := Dones.keeps o n (.inl h3)
      rw [e] at this
      rw [this]
      exact h.iff n hn
    · have h4 : done n ≠ 1 := fun e => h3 ((h.iff n hn).2 e)
      suffices hs : (((t.pass o.now).set i j').jobs n).st ≠ 3 from ⟨fun a => absurd a hs, fun a => absurd a h4⟩
      simp only [set_jobs, pass_jobs]
      split
      · rename_i hni; subst hni
        cases hd with
        | take k s | add k _ s => simp
        | renew k _ s => dsimp only; omega
        | done k _ s => exact absurd ⟨k, h0⟩ h2
        | drop k hi' s hw ht ha =>
          exact hx3 _ _ (by dsimp only; omega)
      · exact hn3 _ h3

/-- JobsRefuses. -/
theorem did_code {t : Tbl} {o : Ord} (h : (t.did o).2.code ≠ 0) : (t.did o).1 = t := by
  rcases did_shape t o with ⟨_, e, _⟩ | ⟨hc, i, hi, j', hd, h0, e, _⟩
  · exact e
  · exact absurd h0 h
theorem did_time (t : Tbl) (o : Ord) : t.now ≤ (t.did o).1.now := by
  rcases did_shape t o with ⟨_, e, _⟩ | ⟨hc, i, hi, j', hd, h0, e, _⟩
  · rw [e]; exact Int.le_refl _
  · rw [e, set_now, pass_now]; omega
theorem did_there {t : Tbl} {o : Ord} {n : Nat} (h : (t.jobs n).st ≠ 0) : ((t.did o).1.jobs n).st ≠ 0 := by
  have hx : ∀ (m : Int) (j : Job), j.st ≠ 0 → (expire m j).st ≠ 0 := fun m j hm => by
    rcases expire_st m j with ⟨e1, _⟩ | ⟨e1, _, e2⟩ <;> omega
  rcases did_shape t o with ⟨_, e, _⟩ | ⟨hc, i, hi, j', hd, h0, e, _⟩
  · rw [e]; exact h
  · rw [e, set_jobs, pass_jobs]
    split
    · cases hd with
      | take k s | add k _ s | done k _ s => simp
      | renew k _ s => dsimp only; omega
      | drop k _ s => exact hx _ _ (by dsimp only; omega)
    · exact hx _ _ h

/-- JobsTime. -/
theorem chk_renew {n j r w : Int} (h1 : 0 ≤ n ∧ n ≤ 60000) (h2 : 0 ≤ j ∧ j ≤ 5) (h3 : 1 ≤ r ∧ r ≤ 3) (h4 : 0 ≤ w ∧ w ≤ 3) : chk ⟨3, n, j, r, w, 1⟩ = 0 := by
  unfold chk; dsimp only
  rw [if_neg (by omega), if_neg (by omega), if_neg (by omega), if_neg (by omega), if_neg (by omega)]
theorem chk_done {n j r w : Int} (h1 : 0 ≤ n ∧ n ≤ 60000) (h2 : 0 ≤ j ∧ j ≤ 5) (h3 : 1 ≤ r ∧ r ≤ 3) (h4 : 0 ≤ w ∧ w ≤ 3) : chk ⟨4, n, j, r, w, 0⟩ = 0 := by
  unfold chk; dsimp only
  rw [if_neg (by omega), if_neg (by omega), if_neg (by omega), if_neg (by omega), if_neg (by omega)]
theorem chk_take {n w m : Int} (h1 : 0 ≤ n ∧ n ≤ 60000) (h4 : 0 ≤ w ∧ w ≤ 3) (h5 : 1 ≤ m ∧ m ≤ 20) : chk ⟨2, n, 0, 0, w, m⟩ = 0 := by
  unfold chk; dsimp only
  rw [if_neg (by omega), if_neg (by omega), if_neg (by omega), if_neg (by omega), if_neg (by omega)]
theorem time_in {t : Tbl} (h : t.In) {n : Nat} (hn : n < 6) (hs : (t.jobs n).st = 2) {now : Int} (h0 : t.now ≤ now) (h1 : now ≤ 60000) (hu : now < (t.jobs n).un) :
    t.did ⟨4, now, n, (t.jobs n).tr, (t.jobs n).wk, 0⟩ = ((t.pass now).set n ⟨3, (t.jobs n).wk, (t.jobs n).tr, 0⟩, ⟨0, 0, 0⟩) ∧
    t.did ⟨3, now, n, (t.jobs n).tr, (t.jobs n).wk, 1⟩ = ((t.pass now).set n ⟨2, (t.jobs n).wk, (t.jobs n).tr, now + 1⟩, ⟨0, 0, 0⟩) := by
  have hj := h.ok.jobs n
  have hh := h.held n hs
  have hnow := h.ok.now
  have e : (t.pass now).jobs n = t.jobs n := by rw [pass_jobs, expire, if_neg (by omega)]
  have hn' : (n : Int).toNat = n := by simp
  constructor
  · refine did_of (chk_done (by omega) (by omega) ⟨hh.1, hj.tr.2⟩ hj.wk) ?_ rfl
    rw [act_held _ _ _ _ _ _ _ (by rw [hn', e]; exact hs) (by rw [hn', e]) (by rw [hn', e]) (by simp)]
    simp [e]
  · refine did_of (chk_renew (by omega) (by omega) ⟨hh.1, hj.tr.2⟩ hj.wk) ?_ rfl
    rw [act_held _ _ _ _ _ _ _ (by rw [hn', e]; exact hs) (by rw [hn', e]) (by rw [hn', e]) (by simp)]
    have hm : max t.now now = now := by omega
    simp [e, hs, pass_now, hm]
theorem time_out {t : Tbl} (h : t.In) {n : Nat} (hn : n < 6) (hs : (t.jobs n).st = 2) {now : Int} (h0 : t.now ≤ now) (h1 : now ≤ 60000) (hu : (t.jobs n).un ≤ now) :
    t.did ⟨4, now, n, (t.jobs n).tr, (t.jobs n).wk, 0⟩ = (t, ⟨6, 0, 0⟩) ∧ t.did ⟨3, now, n, (t.jobs n).tr, (t.jobs n).wk, 1⟩ = (t, ⟨6, 0, 0⟩) := by
  have hj := h.ok.jobs n
  have hh := h.held n hs
  have hnow := h.ok.now
  have hx : ((t.pass now).jobs n).st = 1 ∨ ((t.pass now).jobs n).st = 4 := by
    rw [pass_jobs]
    rcases expire_st (max t.now now) (t.jobs n) with ⟨_, e1⟩ | ⟨_, _, e2⟩
    · rw [expire, if_pos (by omega)] at e1 ⊢
      split <;> simp
    · omega
  have hn' : (n : Int).toNat = n := by simp
  constructor
  · exact did_not (chk_done (by omega) (by omega) ⟨hh.1, hj.tr.2⟩ hj.wk) (act_else _ _ _ _ _ _ _ (by simp) (by dsimp only; rw [hn']; omega) (by dsimp only; rw [hn']; omega)) (by simp)
  · exact did_not (chk_renew (by omega) (by omega) ⟨hh.1, hj.tr.2⟩ hj.wk) (act_else _ _ _ _ _ _ _ (by simp) (by dsimp only; rw [hn']; omega) (by dsimp only; rw [hn']; omega)) (by simp)
theorem time_take {t : Tbl} (h : t.In) {n : Nat} (hn : n < 6) (hs : (t.jobs n).st = 2) (o : Ord) (ho : o.kind = 2) :
    ((t.did o).1.jobs n) = t.jobs n ∨ ((t.did o).1.jobs n).st = 1 ∨ ((t.did o).1.jobs n).st = 4 ∨ (((t.did o).1.jobs n).st = 2 ∧ ((t.did o).1.jobs n).tr = (t.jobs n).tr + 1) := by
  rcases did_shape t o with ⟨_, e, _⟩ | ⟨hc, i, hi, j', hd, h0, e, _⟩
  · rw [e]; exact .inl rfl
  · rw [e, set_jobs, pass_jobs]
    split
    · rename_i hni; subst hni
      cases hd with
      | take k s => exact .inr (.inr (.inr ⟨rfl, by dsimp only; rw [expire_tr]⟩))
      | add k | renew k | done k | drop k => omega
    · rcases expire_st (max t.now o.now) (t.jobs n) with ⟨_, e1⟩ | ⟨_, _, e2⟩
      · exact .inl e1
      · rcases e2 with e2 | e2
        · exact .inr (.inl e2.1)
        · exact .inr (.inr (.inl e2.1))

/-- JobsFirst. -/
theorem pass_self {t : Tbl} (h : t.In) : t.pass t.now = t := by
  obtain ⟨f, n⟩ := t
  unfold Tbl.pass
  congr 1
  · funext i
    refine Classical.byContradiction fun e => ?_
    rcases expire_st (max n n) (f i) with ⟨_, e1⟩ | ⟨e1, e2, _⟩
    · exact e e1
    · have := (h.held i e1).2
      dsimp only at this; omega
  · dsimp only; omega
theorem first_some {t : Tbl} (h : t.In) {i : Nat} (hi : i < 6) (hs : (t.jobs i).st = 1) (hno : ∀ j, j < i → (t.jobs j).st ≠ 1) {w m : Int} (hw : 0 ≤ w ∧ w ≤ 3) (hm : 1 ≤ m ∧ m ≤ 20) :
    t.did ⟨2, t.now, 0, 0, w, m⟩ = (t.set i ⟨2, w, (t.jobs i).tr + 1, t.now + m⟩, ⟨0, i, (t.jobs i).tr + 1⟩) := by
  refine did_of (chk_take h.ok.now hw hm) ?_ rfl
  rw [act_take, pass_self h, ctake, firstW_some 6 0 i (fun j _ hj => hno j hj) (by omega) (by omega) hs]
theorem first_none {t : Tbl} (h : t.In) (hno : ∀ j, j < 6 → (t.jobs j).st ≠ 1) {w m : Int} (hw : 0 ≤ w ∧ w ≤ 3) (hm : 1 ≤ m ∧ m ≤ 20) :
    t.did ⟨2, t.now, 0, 0, w, m⟩ = (t, ⟨5, 0, 0⟩) := by
  refine did_not (chk_take h.ok.now hw hm) (p := t) ?_ (by simp)
  rw [act_take, pass_self h, ctake, firstW_none 6 0 (fun j _ hj => hno j (by omega))]
end Go.Proofs.Ytfihmpkkpgmdhab
