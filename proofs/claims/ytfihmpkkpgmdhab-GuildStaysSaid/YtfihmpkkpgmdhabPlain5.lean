/-
  Plain laws: what an order does to a table of jobs.
-/
import Derived.Test.YtfihmpkkpgmdhabPlain
namespace Go.Proofs.Ytfihmpkkpgmdhab
set_option linter.unusedVariables false

theorem firstW_spec {f : Nat → Job} : ∀ (n i k : Nat), firstW f i n = some k → i ≤ k ∧ k < i + n ∧ (f k).st = 1 ∧ ∀ j, i ≤ j → j < k → (f j).st ≠ 1
  | 0, i, k, h => by simp [firstW] at h
  | n + 1, i, k, h => by
    unfold firstW at h
    split at h
    · rename_i h1
      obtain rfl := Option.some.inj h
      exact ⟨Nat.le_refl _, by omega, h1, fun j h2 h3 => by omega⟩
    · rename_i h1
      obtain ⟨a, b, c, d⟩ := firstW_spec n (i + 1) k h
      refine ⟨by omega, by omega, c, fun j h2 h3 => ?_⟩
      by_cases e : j = i
      · subst e; exact h1
      · exact d j (by omega) h3
theorem firstW_no {f : Nat → Job} : ∀ (n i : Nat), firstW f i n = none → ∀ j, i ≤ j → j < i + n → (f j).st ≠ 1
  | 0, i, _, j, h1, h2 => by omega
  | n + 1, i, h, j, h1, h2 => by
    unfold firstW at h
    split at h
    · cases h
    · rename_i h3
      by_cases e : j = i
      · subst e; exact h3
      · exact firstW_no n (i + 1) h j (by omega) (by omega)
theorem expire_idem (m : Int) (j : Job) : expire m (expire m j) = expire m j := by
  unfold expire
  split
  · split <;> simp
  · rename_i h; rfl
theorem expire_expire {m n : Int} (h : m ≤ n) (j : Job) : expire n (expire m j) = expire n j := by
  by_cases h2 : j.st = 2 ∧ j.un ≤ m
  · have h3 : j.st = 2 ∧ j.un ≤ n := ⟨h2.1, by omega⟩
    by_cases h4 : 3 ≤ j.tr
    · have e1 : expire m j = ⟨4, 0, j.tr, 0⟩ := by rw [expire, if_pos h2, if_pos h4]
      have e2 : expire n j = ⟨4, 0, j.tr, 0⟩ := by rw [expire, if_pos h3, if_pos h4]
      rw [e1, e2]; simp [expire]
    · have e1 : expire m j = ⟨1, 0, j.tr, 0⟩ := by rw [expire, if_pos h2, if_neg h4]
      have e2 : expire n j = ⟨1, 0, j.tr, 0⟩ := by rw [expire, if_pos h3, if_neg h4]
      rw [e1, e2]; simp [expire]
  · rw [show expire m j = j by rw [expire, if_neg h2]]

/-- What an order without a code does to the job that it is about, at a time. -/
inductive JDid (o : Ord) (now : Int) (i : Nat) (a : Ans) : Job → Job → Prop
  | take (j : Job) : o.kind = 2 → j.st = 1 → a = ⟨0, i, j.tr + 1⟩ → JDid o now i a j ⟨2, o.wk, j.tr + 1, now + o.tm⟩
  | add (j : Job) : o.kind = 1 → (i : Int) = o.job → j.st = 0 → a = ⟨0, 0, 0⟩ → JDid o now i a j ⟨1, 0, 0, 0⟩
  | renew (j : Job) : o.kind = 3 → (i : Int) = o.job → j.st = 2 → j.wk = o.wk → j.tr = o.tr → a = ⟨0, 0, 0⟩ → JDid o now i a j { j with un := now + o.tm }
  | done (j : Job) : o.kind = 4 → (i : Int) = o.job → j.st = 2 → j.wk = o.wk → j.tr = o.tr → a = ⟨0, 0, 0⟩ → JDid o now i a j ⟨3, j.wk, j.tr, 0⟩
  | drop (j : Job) : o.kind = 5 → (i : Int) = o.job → j.st = 2 → j.wk = o.wk → j.tr = o.tr → a = ⟨0, 0, 0⟩ → JDid o now i a j (expire now { j with un := now })
theorem did_of {t : Tbl} {o : Ord} {p : Tbl} {a : Ans} (hc : chk o = 0) (h : (t.pass o.now).act o = (p, a)) (h0 : a.code = 0) : t.did o = (p, a) := by
  rw [did_yes hc, h, if_neg (by simpa using h0)]
theorem did_not {t : Tbl} {o : Ord} {p : Tbl} {a : Ans} (hc : chk o = 0) (h : (t.pass o.now).act o = (p, a)) (h0 : a.code ≠ 0) : t.did o = (t, a) := by
  rw [did_yes hc, h, if_pos h0]
/-- What an order does. -/
def Shape (t : Tbl) (o : Ord) (x : Tbl × Ans) : Prop :=
    (x.2.code ≠ 0 ∧ x.1 = t ∧ x.2.job = 0 ∧ x.2.tr = 0) ∨
    (chk o = 0 ∧ ∃ i, i < 6 ∧ ∃ j', JDid o (max t.now o.now) i x.2 (expire (max t.now o.now) (t.jobs i)) j' ∧ x.2.code = 0 ∧
      x.1 = (t.pass o.now).set i j' ∧ (o.kind = 2 → ∀ q, q < i → (expire (max t.now o.now) (t.jobs q)).st ≠ 1))
theorem did_shape (t : Tbl) (o : Ord) : Shape t o (t.did o) := by
  by_cases hc : chk o = 0
  · obtain ⟨hj, hk, htm, h0, h1⟩ := chk_zero hc
    obtain ⟨q, hq⟩ := Int.eq_ofNat_of_zero_le hj.1
    have hq6 : q < 6 := by omega
    have hqt : o.job.toNat = q := by omega
    have hn : (t.pass o.now).now = max t.now o.now := rfl
    have hjb : ∀ i, (t.pass o.now).jobs i = expire (max t.now o.now) (t.jobs i) := fun i => rfl
    by_cases h2 : o.kind = 2
    · have ea : (t.pass o.now).act o = ctake (t.pass o.now) o.wk o.tm := by
        obtain ⟨k, n, j, r, w, m⟩ := o
        dsimp only at h2; subst h2
        exact act_take _ _ _ _ _ _
      unfold ctake at ea
      cases hf : firstW (t.pass o.now).jobs 0 6 with
      | none =>
        rw [hf] at ea
        rw [did_not hc ea (by simp)]
        exact .inl ⟨by simp, rfl, rfl, rfl⟩
      | some i =>
        rw [hf] at ea
        obtain ⟨_, hi, hs, hno⟩ := firstW_spec 6 0 i hf
        rw [did_of hc ea (by simp)]
        exact .inr ⟨hc, i, by omega, _, .take _ h2 hs rfl, rfl, rfl, fun _ q hq => hno q (Nat.zero_le _) hq⟩
    · by_cases h3 : o.kind = 1
      · by_cases hs : ((t.pass o.now).jobs q).st = 0
        · have ea : (t.pass o.now).act o = ((t.pass o.now).set q ⟨1, 0, 0, 0⟩, ⟨0, 0, 0⟩) := by
            simp [Tbl.act, h3, hqt, hs]
          rw [did_of hc ea (by simp)]
          exact .inr ⟨hc, q, hq6, _, .add _ h3 hq.symm hs rfl, rfl, rfl, fun h => absurd h h2⟩
        · have ea : (t.pass o.now).act o = (t.pass o.now, ⟨4, 0, 0⟩) := by
            simp [Tbl.act, h3, hqt, hs]
          rw [did_not hc ea (by simp)]
          exact .inl ⟨by simp, rfl, rfl, rfl⟩
      · have hk' : o.kind = 3 ∨ o.kind = 4 ∨ o.kind = 5 := by omega
        obtain ⟨k, n, j, r, w, m⟩ := o
        dsimp only at *
        by_cases hs : ((t.pass n).jobs j.toNat).st = 0
        · rw [did_not hc (act_absent _ _ _ _ _ _ _ hk' hs) (by simp)]
          exact .inl ⟨by simp, rfl, rfl, rfl⟩
        · by_cases hh : ((t.pass n).jobs j.toNat).st = 2 ∧ ((t.pass n).jobs j.toNat).wk = w ∧ ((t.pass n).jobs j.toNat).tr = r
          · rw [did_of hc (act_held _ _ _ _ _ _ _ hh.1 hh.2.1 hh.2.2 hk') (by simp)]
            rw [hqt] at *
            obtain ⟨s1, s2, s3⟩ := hh
            refine .inr ⟨hc, q, hq6, ?_⟩
            rcases hk' with rfl | rfl | rfl
            · exact ⟨_, .renew _ rfl hq.symm s1 s2 s3 rfl, rfl, by simp [hn, hjb], fun h => absurd h h2⟩
            · exact ⟨_, .done _ rfl hq.symm s1 s2 s3 rfl, rfl, by simp [hjb], fun h => absurd h h2⟩
            · refine ⟨_, .drop _ rfl hq.symm s1 s2 s3 rfl, rfl, ?_, fun h => absurd h h2⟩
              simp only [show ¬ (5 : Int) = 3 by decide, show ¬ (5 : Int) = 4 by decide, if_false]
              simp only [Tbl.pass, Tbl.set]
              rw [show max (max t.now n) (max t.now n) = max t.now n by omega]
              congr 1
              funext i
              by_cases hi : i = q
              · subst hi; simp
              · simp only [hi, if_false]
                rw [expire_idem]
          · rw [did_not hc (act_else _ _ _ _ _ _ _ hk' hs (by
              by_cases a : ((t.pass n).jobs j.toNat).st = 2
              · by_cases b' : ((t.pass n).jobs j.toNat).wk = w
                · exact .inr (.inr fun e => hh ⟨a, b', e⟩)
                · exact .inr (.inl b')
              · exact .inl a)) (by simp)]
            exact .inl ⟨by simp, rfl, rfl, rfl⟩
  · rw [did_no hc]
    exact .inl ⟨hc, rfl, rfl, rfl⟩
theorem set_ok {t : Tbl} {i : Nat} {j : Job} (h : t.Ok) (hj : j.Ok) : (t.set i j).Ok :=
  ⟨h.now, fun k => by unfold Tbl.set; dsimp only; split; exact hj; exact h.jobs k⟩
theorem chk_more {o : Ord} (h : chk o = 0) : (0 ≤ o.now ∧ o.now ≤ 60000) ∧ (0 ≤ o.wk ∧ o.wk ≤ 3) ∧ (o.kind = 2 ∨ o.kind = 3 → 1 ≤ o.tm ∧ o.tm ≤ 20) ∧ (o.kind = 3 ∨ o.kind = 4 ∨ o.kind = 5 → 1 ≤ o.tr ∧ o.tr ≤ 3) := by
  unfold chk at h
  split at h
  · omega
  · split at h
    · omega
    · split at h
      · omega
      · split at h
        · omega
        · split at h <;> omega
theorem JDid.ok {o : Ord} {now : Int} {i : Nat} {a : Ans} {j j' : Job} (h : JDid o now i a j j') (hc : chk o = 0) (hn : 0 ≤ now ∧ now ≤ 60000) (hj : j.Ok) : j'.Ok := by
  obtain ⟨h1, h2, h3, h4⟩ := chk_more hc
  have hst := hj.st
  have hwk := hj.wk
  have htr := hj.tr
  have hun := hj.un
  have hwt := hj.wt
  cases h with
  | take e s ha => exact ⟨by simp, h2, by have := hwt s; dsimp only; omega, by have := h3 (.inl e); dsimp only; omega, by simp, by simp⟩
  | add e s ha => exact ⟨by simp, by simp, by simp, by simp, by simp, by simp⟩
  | renew e hi s hw ht ha => exact ⟨hst, hwk, htr, by have := h3 (.inr e); dsimp only; omega, fun h => by dsimp only at h; omega, fun h => by dsimp only at h; omega⟩
  | done e hi s hw ht ha => exact ⟨by simp, hwk, htr, by simp, by simp, by simp⟩
  | drop e hi s hw ht ha => exact expire_ok _ ⟨hst, hwk, htr, by dsimp only; omega, fun h => by dsimp only at h; omega, fun h => by dsimp only at h; omega⟩
theorem did_ok {t : Tbl} (h : t.Ok) (o : Ord) : (t.did o).1.Ok := by
  rcases did_shape t o with ⟨_, e, _⟩ | ⟨hc, i, hi, j', hd, _, e, _⟩
  · rw [e]; exact h
  · rw [e]
    have hn := (chk_more hc).1
    have := h.now
    exact set_ok (pass_ok h hn.2) (hd.ok hc (by omega) (expire_ok _ (h.jobs i)))
theorem Job.zero_ok : Job.zero.Ok := ⟨by simp [Job.zero], by simp [Job.zero], by simp [Job.zero], by simp [Job.zero], fun _ => rfl, by simp [Job.zero]⟩
theorem Tbl.zero_ok : Tbl.zero.Ok := ⟨by simp [Tbl.zero], fun _ => Job.zero_ok⟩
end Go.Proofs.Ytfihmpkkpgmdhab
