/-
  Plain definitions: jobs, orders, tables of jobs. No program in sight.
-/
namespace Go.Proofs.Ytfihmpkkpgmdhab

structure Job where
  (st wk tr un : Int)
structure Ord where
  (kind now job tr wk tm : Int)
structure Ans where
  (code job tr : Int)
structure Tbl where
  jobs : Nat → Job
  now : Int

def Job.zero : Job := ⟨0, 0, 0, 0⟩
def Tbl.zero : Tbl := ⟨fun _ => Job.zero, 0⟩

/-- A number from one to another one. -/
def inB (n a b : Int) : Bool := decide (a ≤ n) && decide (n ≤ b)

/-- jobs.Check -/
def chk (o : Ord) : Int :=
  if ¬ (1 ≤ o.kind ∧ o.kind ≤ 5) then 1
  else if (o.kind = 2 ∧ o.job ≠ 0) ∨ ((o.kind = 2 ∨ o.kind = 1) ∧ o.tr ≠ 0) ∨ (o.kind = 1 ∧ o.wk ≠ 0) ∨ (o.kind ≠ 2 ∧ o.kind ≠ 3 ∧ o.tm ≠ 0) then 2
  else if ¬ (0 ≤ o.now ∧ o.now ≤ 60000) ∨ ¬ (0 ≤ o.job ∧ o.job ≤ 5) ∨ ¬ (0 ≤ o.wk ∧ o.wk ≤ 3) then 3
  else if o.kind ≠ 2 ∧ o.kind ≠ 1 ∧ ¬ (1 ≤ o.tr ∧ o.tr ≤ 3) then 3
  else if (o.kind = 2 ∨ o.kind = 3) ∧ ¬ (1 ≤ o.tm ∧ o.tm ≤ 20) then 3
  else 0

/-- What is held no longer waits, or is lost. -/
def expire (now : Int) (j : Job) : Job :=
  if j.st = 2 ∧ j.un ≤ now then (if 3 ≤ j.tr then ⟨4, 0, j.tr, 0⟩ else ⟨1, 0, j.tr, 0⟩) else j
def Tbl.pass (t : Tbl) (n : Int) : Tbl := ⟨fun i => expire (max t.now n) (t.jobs i), max t.now n⟩
def Tbl.set (t : Tbl) (i : Nat) (j : Job) : Tbl := ⟨fun k => if k = i then j else t.jobs k, t.now⟩

/-- The first of the jobs from 'i' on, 'n' of them, that waits. -/
def firstW (f : Nat → Job) : Nat → Nat → Option Nat
  | _, 0 => none
  | i, n + 1 => if (f i).st = 1 then some i else firstW f (i + 1) n

/-- Behind the time: what an order does; its answer. -/
def Tbl.act (t : Tbl) (o : Ord) : Tbl × Ans :=
  if o.kind = 2 then
    match firstW t.jobs 0 6 with
    | some i => (t.set i ⟨2, o.wk, (t.jobs i).tr + 1, t.now + o.tm⟩, ⟨0, i, (t.jobs i).tr + 1⟩)
    | none => (t, ⟨5, 0, 0⟩)
  else
    let j := t.jobs o.job.toNat
    if o.kind = 1 then (if j.st ≠ 0 then (t, ⟨4, 0, 0⟩) else (t.set o.job.toNat ⟨1, 0, 0, 0⟩, ⟨0, 0, 0⟩))
    else if j.st = 0 then (t, ⟨5, 0, 0⟩)
    else if j.st ≠ 2 ∨ j.wk ≠ o.wk ∨ j.tr ≠ o.tr then (t, ⟨6, 0, 0⟩)
    else if o.kind = 3 then (t.set o.job.toNat { j with un := t.now + o.tm }, ⟨0, 0, 0⟩)
    else if o.kind = 4 then (t.set o.job.toNat ⟨3, j.wk, j.tr, 0⟩, ⟨0, 0, 0⟩)
    else ((t.set o.job.toNat { j with un := t.now }).pass t.now, ⟨0, 0, 0⟩)

/-- An order: with a code nothing is done. -/
def Tbl.did (t : Tbl) (o : Ord) : Tbl × Ans :=
  if chk o ≠ 0 then (t, ⟨chk o, 0, 0⟩)
  else
    let x := (t.pass o.now).act o
    if x.2.code ≠ 0 then (t, x.2) else x

/-- What is reached keeps within these bounds. -/
structure Job.Ok (j : Job) : Prop where
  st : 0 ≤ j.st ∧ j.st ≤ 4
  wk : 0 ≤ j.wk ∧ j.wk ≤ 3
  tr : 0 ≤ j.tr ∧ j.tr ≤ 3
  un : 0 ≤ j.un ∧ j.un ≤ 60020
  ab : j.st = 0 → j = Job.zero
  wt : j.st = 1 → j.tr ≤ 2
structure Tbl.Ok (t : Tbl) : Prop where
  now : 0 ≤ t.now ∧ t.now ≤ 60000
  jobs : ∀ i, (t.jobs i).Ok

def Tbl.job (t : Tbl) (n : Int) : Job := if 0 ≤ n ∧ n ≤ 5 then t.jobs n.toNat else Job.zero

/-- OTake alone. -/
def ctake (t : Tbl) (k m : Int) : Tbl × Ans :=
  match firstW t.jobs 0 6 with
  | some i => (t.set i ⟨2, k, (t.jobs i).tr + 1, t.now + m⟩, ⟨0, i, (t.jobs i).tr + 1⟩)
  | none => (t, ⟨5, 0, 0⟩)
theorem act_take (tb : Tbl) (n j t k m : Int) : tb.act ⟨2, n, j, t, k, m⟩ = ctake tb k m := by
  unfold Tbl.act ctake
  simp only [if_true]
theorem firstW_some {f : Nat → Job} : ∀ (n i k : Nat), (∀ j, i ≤ j → j < k → (f j).st ≠ 1) → i ≤ k → k < i + n → (f k).st = 1 → firstW f i n = some k
  | 0, i, k, _, h1, h2, _ => by omega
  | n + 1, i, k, h0, h1, h2, h3 => by
    unfold firstW
    by_cases e : i = k
    · subst e; simp [h3]
    · rw [if_neg (h0 i (Nat.le_refl _) (by omega))]
      exact firstW_some n (i + 1) k (fun j hj => h0 j (by omega)) (by omega) (by omega) h3
theorem firstW_none {f : Nat → Job} : ∀ (n i : Nat), (∀ j, i ≤ j → j < i + n → (f j).st ≠ 1) → firstW f i n = none
  | 0, i, _ => rfl
  | n + 1, i, h0 => by
    unfold firstW
    rw [if_neg (h0 i (Nat.le_refl _) (by omega))]
    exact firstW_none n (i + 1) (fun j hj h => h0 j (by omega) (by omega))
theorem act_absent (tb : Tbl) (c n j t k m : Int) (hc : c = 3 ∨ c = 4 ∨ c = 5) (hs : (tb.jobs j.toNat).st = 0) : tb.act ⟨c, n, j, t, k, m⟩ = (tb, ⟨5, 0, 0⟩) := by
  rcases hc with rfl | rfl | rfl <;> simp [Tbl.act, hs]
theorem act_else (tb : Tbl) (c n j t k m : Int) (hc : c = 3 ∨ c = 4 ∨ c = 5) (h0 : (tb.jobs j.toNat).st ≠ 0) (hs : (tb.jobs j.toNat).st ≠ 2 ∨ (tb.jobs j.toNat).wk ≠ k ∨ (tb.jobs j.toNat).tr ≠ t) : tb.act ⟨c, n, j, t, k, m⟩ = (tb, ⟨6, 0, 0⟩) := by
  rcases hc with rfl | rfl | rfl <;> simp [Tbl.act, h0, hs]
theorem act_held (tb : Tbl) (c n j t k m : Int) (h0 : (tb.jobs j.toNat).st = 2) (h1 : (tb.jobs j.toNat).wk = k) (h2 : (tb.jobs j.toNat).tr = t) (hc : c = 3 ∨ c = 4 ∨ c = 5) :
    tb.act ⟨c, n, j, t, k, m⟩ = (if c = 3 then tb.set j.toNat { tb.jobs j.toNat with un := tb.now + m } else if c = 4 then tb.set j.toNat ⟨3, (tb.jobs j.toNat).wk, (tb.jobs j.toNat).tr, 0⟩ else (tb.set j.toNat { tb.jobs j.toNat with un := tb.now }).pass tb.now, ⟨0, 0, 0⟩) := by
  rcases hc with rfl | rfl | rfl <;> simp [Tbl.act, h0, h1, h2]
theorem inB_true {n a b : Int} : inB n a b = true ↔ a ≤ n ∧ n ≤ b := by simp [inB]
theorem inB_false {n a b : Int} : inB n a b = false ↔ ¬ (a ≤ n ∧ n ≤ b) := by simp [inB]

theorem chk_zero {o : Ord} (h : chk o = 0) : (0 ≤ o.job ∧ o.job ≤ 5) ∧ (o.kind = 1 ∨ o.kind = 2 ∨ o.kind = 3 ∨ o.kind = 4 ∨ o.kind = 5) ∧ (o.kind = 2 ∨ o.kind = 3 → 1 ≤ o.tm) ∧ 0 ≤ o.tm ∧ o.tm ≤ 20 := by
  unfold chk at h
  split at h <;> omega
theorem did_no {t : Tbl} {o : Ord} (h : chk o ≠ 0) : t.did o = (t, ⟨chk o, 0, 0⟩) := by simp [Tbl.did, h]
theorem did_yes {t : Tbl} {o : Ord} (h : chk o = 0) : t.did o = if ((t.pass o.now).act o).2.code ≠ 0 then (t, ((t.pass o.now).act o).2) else (t.pass o.now).act o := by simp [Tbl.did, h]
theorem expire_ok {j : Job} (m : Int) (h : j.Ok) : (expire m j).Ok := by
  unfold expire
  have := h.tr
  split
  · split
    · exact ⟨by simp, by simp, by simp; omega, by simp, by simp, by simp⟩
    · exact ⟨by simp, by simp, by simp; omega, by simp, by simp, by simp; omega⟩
  · exact h
theorem pass_ok {t : Tbl} {n : Int} (h : t.Ok) (h0 : n ≤ 60000) : (t.pass n).Ok :=
  ⟨by have := h.now; simp only [Tbl.pass]; omega, fun i => expire_ok _ (h.jobs i)⟩
theorem chk_now {o : Ord} (h : chk o = 0) : 0 ≤ o.now ∧ o.now ≤ 60000 := by
  unfold chk at h
  split at h <;> omega
/-- The table behind k of the rounds of pass. -/
def passTo (t : Tbl) (m : Int) (k : Nat) : Tbl := ⟨fun i => if i < k then expire m (t.jobs i) else t.jobs i, m⟩

end Go.Proofs.Ytfihmpkkpgmdhab
