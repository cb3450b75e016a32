/-
  Plain definitions and laws: the story that a disk's bytes tell.
-/
import Derived.Test.YtfihmpkkpgmdhabPlain9
namespace Go.Proofs.Ytfihmpkkpgmdhab
set_option linter.unusedVariables false

structure Ev where
  r : Rec
  a : Ans
  j : Job
def evOf (t : Tbl) (r : Rec) : Ev :=
  ⟨r, (t.did r.o).2, if (t.did r.o).2.code = 0 then (t.did r.o).1.job (if r.o.kind = 2 then (t.did r.o).2.job else r.o.job) else Job.zero⟩
def evs : Tbl → List Rec → List Ev
  | _, [] => []
  | t, r :: l => evOf t r :: evs (t.did r.o).1 l
def Ev.has (e : Ev) (k : Int) : Bool := decide (e.r.o.kind = 2) && decide (e.a.code = 0) && decide (e.a.job = k)
def holders (l : List Ev) (k : Int) : List (Int × Int) := (l.filter fun e => e.has k).map fun e => (e.r.o.wk, e.a.tr)
theorem evs_len : ∀ (t : Tbl) (l : List Rec), (evs t l).length = l.length
  | _, [] => rfl
  | t, r :: l => by simp [evs, evs_len]
theorem evs_take : ∀ (t : Tbl) (l : List Rec) (k : Nat), evs t (l.take k) = (evs t l).take k
  | _, [], k => by simp [evs]
  | t, r :: l, 0 => by simp [evs]
  | t, r :: l, k + 1 => by simp [evs, evs_take]
theorem evs_get : ∀ (t : Tbl) (l : List Rec) (i : Nat) (r : Rec), l[i]? = some r → (evs t l)[i]? = some (evOf (runL t (l.take i)) r)
  | _, [], i, r, h => by simp at h
  | t, q :: l, 0, r, h => by simp at h; subst h; simp [evs, runL]
  | t, q :: l, i + 1, r, h => by simp at h; simp [evs, runL, evs_get _ l i r h]
theorem evs_append : ∀ (t : Tbl) (l m : List Rec), evs t (l ++ m) = evs t l ++ evs (runL t l) m
  | _, [], m => rfl
  | t, r :: l, m => by simp [evs, runL, evs_append]

theorem decB_nine (a b c d e f g i j : UInt8) (m : List UInt8) : decB (a :: b :: c :: d :: e :: f :: g :: i :: j :: m) = decB [a, b, c, d, e, f, g, i, j] := by
  have h1 : ¬ (a :: b :: c :: d :: e :: f :: g :: i :: j :: m).length < 9 := by simp only [List.length_cons]; omega
  have h2 : ¬ ([a, b, c, d, e, f, g, i, j] : List UInt8).length < 9 := by simp
  unfold decB
  rw [if_neg h1, if_neg h2]
  rfl
/-- A cut cuts the records. -/
theorem decB_take {l : List UInt8} {k : Nat} (hk : 9 ≤ k) : decB (l.take k) = decB l := by
  by_cases h : l.length < 9
  · rw [List.take_of_length_le (by omega)]
  · obtain ⟨a, b, c, d, e, f, g, i, j, m, rfl⟩ := list9 (l := l) (by omega)
    obtain ⟨q, rfl⟩ : ∃ q, k = q + 9 := ⟨k - 9, by omega⟩
    simp only [List.take_succ_cons]
    rw [decB_nine, decB_nine (m := m)]
theorem allFrom_cut : ∀ (n : Nat) (e : Int) (l : List UInt8) (k : Nat), l.length < 9 * n → allFrom n e (l.take k) = (allFrom n e l).take (k / 9)
  | 0, _, _, _, h => by omega
  | n + 1, e, l, k, h => by
    by_cases hk : k < 9
    · rw [allFrom_short _ _ _ (by simp; omega), show k / 9 = 0 by omega, List.take_zero]
    · rw [allFrom, allFrom, decB_take (by omega)]
      split
      · simp
      · rename_i hd
        have h9 := decB_len (l := l) (by omega)
        rw [show k / 9 = (k - 9) / 9 + 1 by omega, List.take_succ_cons, List.drop_take, allFrom_cut n _ (l.drop 9) (k - 9) (by simp; omega)]
theorem allB_take (l : List UInt8) (k : Nat) : allB (l.take k) = (allB l).take (k / 9) := by
  unfold allB
  rw [allFrom_fuel ((l.take k).length + 1) (l.length + 1) _ _ (by omega) (by simp; omega)]
  exact allFrom_cut _ _ _ _ (by omega)

/-- How a job's tries go on. -/
theorem did_tr {t : Tbl} (h : t.In) (o : Ord) {k : Nat} (hk : k < 6) :
    (((t.did o).1.jobs k).tr = (t.jobs k).tr + 1 ∧ o.kind = 2 ∧ (t.did o).2.code = 0 ∧ (t.did o).2.job = k ∧ (t.did o).2.tr = (t.jobs k).tr + 1) ∨
    (((t.did o).1.jobs k).tr = (t.jobs k).tr ∧ ¬ (o.kind = 2 ∧ (t.did o).2.code = 0 ∧ (t.did o).2.job = k)) := by
  have ht : Tries t (fun n => (t.jobs n).tr) (fun n => (t.jobs n).wk) := ⟨fun _ _ => rfl, fun _ _ _ => rfl⟩
  by_cases h2 : o.kind = 2 ∧ (t.did o).2.code = 0
  · obtain ⟨i, hi, hj, htr, _, _, hT⟩ := ht.take h h2.1 h2.2
    have := hT.tr k hk
    unfold upd at this
    by_cases e : k = i
    · subst e
      rw [if_pos rfl] at this
      exact .inl ⟨this, h2.1, h2.2, hj, htr⟩
    · rw [if_neg e] at this
      exact .inr ⟨this, fun h => e (by omega)⟩
  · exact .inr ⟨(ht.other h h2).tr k hk, fun h => h2 ⟨h.1, h.2.1⟩⟩
theorem holders_cons (e : Ev) (l : List Ev) (k : Int) : holders (e :: l) k = if e.has k then (e.r.o.wk, e.a.tr) :: holders l k else holders l k := by
  unfold holders
  rw [List.filter_cons]
  split <;> rfl
theorem has_iff (e : Ev) (k : Int) : e.has k = true ↔ e.r.o.kind = 2 ∧ e.a.code = 0 ∧ e.a.job = k := by
  simp [Ev.has, and_assoc]
theorem holders_tr : ∀ (l : List Rec) (t : Tbl) (k : Nat), k < 6 → t.In → ((holders (evs t l) k).length : Int) + (t.jobs k).tr = ((runL t l).jobs k).tr ∧ ∀ (i : Nat) p, (holders (evs t l) k)[i]? = some p → p.2 = (t.jobs k).tr + i + 1
  | [], t, k, hk, ht => by simp [evs, holders, runL]
  | r :: l, t, k, hk, ht => by
    obtain ⟨ih1, ih2⟩ := holders_tr l (t.did r.o).1 k hk (did_in ht _)
    simp only [evs, runL]
    rw [holders_cons]
    rcases did_tr ht r.o hk with ⟨h1, h2, h3, h4, h5⟩ | ⟨h1, h2⟩
    · have hh : (evOf t r).has k = true := (has_iff _ _).2 ⟨h2, h3, h4⟩
      rw [if_pos hh]
      refine ⟨by rw [List.length_cons]; omega, fun i p hp => ?_⟩
      cases i with
      | zero =>
        simp only [List.getElem?_cons_zero, Option.some.injEq] at hp
        subst hp
        show (t.did r.o).2.tr = _
        omega
      | succ i =>
        simp only [List.getElem?_cons_succ] at hp
        have := ih2 i p hp
        omega
    · have hh : ¬ (evOf t r).has k = true := fun e => h2 ((has_iff _ _).1 e)
      rw [if_neg hh]
      exact ⟨by omega, fun i p hp => by have := ih2 i p hp; omega⟩
theorem done_codes : ∀ {t : Tbl} {l : List Rec}, Done t l → ∀ e ∈ evs t l, e.a.code = 0
  | _, [], _, e, h => by simp [evs] at h
  | t, r :: l, .cons _ _ _ h1 h2, e, h => by
    simp only [evs, List.mem_cons] at h
    rcases h with rfl | h
    · exact h1
    · exact done_codes h2 e h
theorem Done.front : ∀ {t : Tbl} {l m : List Rec}, Done t (l ++ m) → Done t l ∧ Done (runL t l) m
  | _, [], _, h => ⟨.nil _, h⟩
  | t, r :: l, m, .cons _ _ _ h1 h2 => ⟨.cons _ _ _ h1 (Done.front h2).1, (Done.front h2).2⟩
/-- StoryOnce: how often each was added, and done. -/
structure Once (t : Tbl) (added done : Nat → Int) : Prop where
  a0 : ∀ n, n < 6 → ((t.jobs n).st = 0 → added n = 0) ∧ ((t.jobs n).st ≠ 0 → added n = 1)
  d0 : ∀ n, n < 6 → 0 ≤ done n ∧ done n ≤ 1 ∧ (done n ≠ 0 → (t.jobs n).st = 3)
theorem Once.zero : Once Tbl.zero (fun _ => 0) (fun _ => 0) := ⟨fun n _ => by simp [Tbl.zero, Job.zero], fun n _ => by simp⟩
/-- The job of an event. -/
def Ev.job (e : Ev) : Int := if e.r.o.kind = 2 then e.a.job else e.r.o.job
theorem Once.step {t : Tbl} {added done : Nat → Int} (h : Once t added done) {r : Rec} (h0 : (t.did r.o).2.code = 0) :
    ∃ i : Nat, i < 6 ∧ (evOf t r).job = i ∧ done i = 0 ∧ (r.o.kind = 1 → added i = 0) ∧ (r.o.kind ≠ 1 → added i = 1) ∧
      Once (t.did r.o).1 (if r.o.kind = 1 then upd added i 1 else added) (if r.o.kind = 4 then upd done i 1 else done) := by
  rcases did_shape t r.o with ⟨e0, _⟩ | ⟨hc, i, hi, j', hd, _, e, _⟩
  · exact absurd h0 e0
  · have hx0 : (expire (max t.now r.o.now) (t.jobs i)).st = 0 ↔ (t.jobs i).st = 0 := by
      rcases expire_st (max t.now r.o.now) (t.jobs i) with ⟨e1, _⟩ | ⟨e1, _, e2⟩ <;> omega
    have hx3 : ∀ n, ((t.jobs n).st = 3) → expire (max t.now r.o.now) (t.jobs n) = t.jobs n := fun n hn => expire_not (by omega)
    have hxz : ∀ n, (expire (max t.now r.o.now) (t.jobs n)).st = 0 ↔ (t.jobs n).st = 0 := fun n => by
      rcases expire_st (max t.now r.o.now) (t.jobs n) with ⟨e1, _⟩ | ⟨e1, _, e2⟩ <;> omega
    have hjob : (evOf t r).job = i := by
      unfold Ev.job evOf
      dsimp only
      cases hd with
      | take k s ha => rw [if_pos k, ha]
      | add k hi' => rw [if_neg (by omega), hi']
      | renew k hi' => rw [if_neg (by omega), hi']
      | done k hi' => rw [if_neg (by omega), hi']
      | drop k hi' => rw [if_neg (by omega), hi']
    have hnot3 : (t.jobs i).st ≠ 3 := by
      intro h3
      rw [hx3 i h3] at hd
      cases hd with
      | take k s | add k _ s | renew k _ s | done k _ s | drop k _ s => omega
    have hdi : done i = 0 := by
      refine Classical.byContradiction fun hne => ?_
      exact hnot3 ((h.d0 i hi).2.2 hne)
    have hrest : ∀ n, n ≠ i → ((t.did r.o).1.jobs n) = expire (max t.now r.o.now) (t.jobs n) := fun n hn => by rw [e, set_jobs, if_neg hn, pass_jobs]
    have hself : (t.did r.o).1.jobs i = j' := by rw [e, set_jobs, if_pos rfl]
    have hst : j'.st ≠ 0 := by
      cases hd with
      | take k s | add k _ s | done k _ s => simp
      | renew k _ s => dsimp only; omega
      | drop k _ s =>
        have : ∀ (m : Int) (j : Job), j.st = 2 → (expire m j).st ≠ 0 := fun m j hj => by
          rcases expire_st m j with ⟨e1, _⟩ | ⟨e1, _, e2⟩ <;> omega
        exact this _ _ s
    have hadd : (r.o.kind = 1 → (t.jobs i).st = 0) ∧ (r.o.kind ≠ 1 → (t.jobs i).st ≠ 0) := by
      cases hd with
      | take k s => exact ⟨by omega, fun _ => by omega⟩
      | add k _ s => exact ⟨fun _ => hx0.1 s, by omega⟩
      | renew k _ s | done k _ s | drop k _ s => exact ⟨by omega, fun _ => by omega⟩
    refine ⟨i, hi, hjob, hdi, fun hk => (h.a0 i hi).1 (hadd.1 hk), fun hk => (h.a0 i hi).2 (hadd.2 hk), fun n hn => ?_, fun n hn => ?_⟩
    · by_cases hni : n = i
      · subst hni
        rw [hself]
        refine ⟨fun h => absurd h hst, fun _ => ?_⟩
        by_cases hk : r.o.kind = 1
        · rw [if_pos hk]; simp [upd]
        · rw [if_neg hk]; exact (h.a0 n hn).2 (hadd.2 hk)
      · rw [hrest n hni]
        have ha := h.a0 n hn
        have hz := hxz n
        have hu : (if r.o.kind = 1 then upd added i 1 else added) n = added n := by split <;> simp [upd, hni]
        rw [hu]
        exact ⟨fun h => ha.1 (hz.1 h), fun h => ha.2 (fun e => h (hz.2 e))⟩
    · by_cases hni : n = i
      · subst hni
        rw [hself]
        by_cases hk : r.o.kind = 4
        · rw [if_pos hk]
          simp only [upd, if_true]
          refine ⟨by omega, by omega, fun _ => ?_⟩
          cases hd with
          | done k => rfl
          | take k | add k | renew k | drop k => omega
        · rw [if_neg hk, hdi]
          exact ⟨by omega, by omega, fun h => absurd rfl h⟩
      · rw [hrest n hni]
        have hd := h.d0 n hn
        have hu : (if r.o.kind = 4 then upd done i 1 else done) n = done n := by split <;> simp [upd, hni]
        rw [hu]
        exact ⟨hd.1, hd.2.1, fun hne => by rw [hx3 n (hd.2.2 hne)]; exact hd.2.2 hne⟩
end Go.Proofs.Ytfihmpkkpgmdhab
