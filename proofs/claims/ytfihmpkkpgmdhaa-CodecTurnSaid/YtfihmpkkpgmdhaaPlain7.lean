/-
  Plain definitions: nodes that serve from a disk; what holds of them.
-/
import Derived.Test.YtfihmpkkpgmdhaaPlain2
import Derived.Test.YtfihmpkkpgmdhaaPlain4
import Derived.Test.YtfihmpkkpgmdhaaPlain6
namespace Go.Proofs.Ytfihmpkkpgmdhaa
set_option linter.unusedVariables false

structure Nod where
  t : Tbl
  ep : Int
  down : Bool
/-- A table behind records. -/
def runL : Tbl → List Rec → Tbl
  | t, [] => t
  | t, r :: l => runL (t.did r.o).1 l
def behind (l : List Rec) : Tbl := runL Tbl.zero l
theorem runL_append (t : Tbl) (l m : List Rec) : runL t (l ++ m) = runL (runL t l) m := by
  induction l generalizing t with
  | nil => rfl
  | cons r l ih => exact ih _
theorem runL_in {t : Tbl} (h : t.In) (l : List Rec) : (runL t l).In := by
  induction l generalizing t with
  | nil => exact h
  | cons r l ih => exact ih (did_in h _)
theorem behind_in (l : List Rec) : (behind l).In := runL_in Tbl.zero_in l
theorem behind_snoc (l : List Rec) (r : Rec) : behind (l ++ [r]) = ((behind l).did r.o).1 := by unfold behind; rw [runL_append]; rfl

/-- The first of records, as long as they are of no later epoch. -/
def untilE (e : Int) : List Rec → List Rec
  | [] => []
  | r :: l => if e < r.ep then [] else r :: untilE e l
def keepN (k : Int) : Nat := (min (max k 0) 9).toNat
/-- An order of a node: of the record only the first bytes come to the disk. -/
def Nod.order (d : Dsk) (n : Nod) (o : Ord) (k : Nat) : Dsk × Nod × Ans :=
  if n.down then (d, n, ⟨10, 0, 0⟩)
  else if n.ep ≠ d.ep then (d, ⟨n.t, n.ep, true⟩, ⟨9, 0, 0⟩)
  else if (n.t.did o).2.code ≠ 0 then (d, n, (n.t.did o).2)
  else if (d.append n.ep ((encB ⟨n.ep, o⟩).take k)).2 ≠ 0 then (d, n, ⟨(d.append n.ep ((encB ⟨n.ep, o⟩).take k)).2, 0, 0⟩)
  else ((d.append n.ep ((encB ⟨n.ep, o⟩).take k)).1, ⟨(n.t.did o).1, n.ep, n.down⟩, (n.t.did o).2)
def Nod.tear (d : Dsk) (n : Nod) (o : Ord) (k : Nat) : Dsk × Nod × Int :=
  let x := n.order d o k
  if x.2.2.code = 0 then (x.1, ⟨n.t, x.2.1.ep, true⟩, x.2.2.code) else (x.1, x.2.1, x.2.2.code)
/-- What Open finds. -/
def found (d : Dsk) : List Rec := untilE d.ep (allB d.b)
def opened (d : Dsk) : Dsk × Option Nod × Int :=
  if 100 ≤ d.ep then (d, none, 8)
  else (⟨d.ep + 1, d.b.take (9 * (found d).length)⟩, some ⟨behind (found d), d.ep + 1, false⟩, 0)

theorem allFrom_rising : ∀ (n : Nat) (e : Int) (l : List UInt8), Rising e (allFrom n e l)
  | 0, _, _ => trivial
  | n + 1, e, l => by
    unfold allFrom
    split
    · trivial
    · rename_i h
      have h0 : (decB l).2 = 0 := by omega
      exact ⟨(encB_decB h0).1, by omega, allFrom_rising n _ _⟩
theorem allFrom_take : ∀ (n : Nat) (e : Int) (l : List UInt8), ∃ m, l = encAll (allFrom n e l) ++ m
  | 0, _, l => ⟨l, rfl⟩
  | n + 1, e, l => by
    unfold allFrom
    split
    · exact ⟨l, rfl⟩
    · rename_i h
      have h0 : (decB l).2 = 0 := by omega
      obtain ⟨m, hm⟩ := allFrom_take n (decB l).1.ep (l.drop 9)
      refine ⟨m, ?_⟩
      rw [encAll_cons, (encB_decB h0).2, List.append_assoc, ← hm, List.take_append_drop]
theorem allB_rising (l : List UInt8) : Rising 0 (allB l) := allFrom_rising _ _ _
theorem allB_prefix (l : List UInt8) : ∃ m, l = encAll (allB l) ++ m := allFrom_take _ _ _
theorem allB_len (l : List UInt8) : 9 * (allB l).length ≤ l.length := by
  obtain ⟨m, hm⟩ := allB_prefix l
  have := congrArg List.length hm
  rw [List.length_append, encAll_len] at this
  omega
theorem untilE_prefix (e : Int) : ∀ l : List Rec, ∃ m, l = untilE e l ++ m
  | [] => ⟨[], rfl⟩
  | r :: l => by
    unfold untilE
    split
    · exact ⟨r :: l, rfl⟩
    · obtain ⟨m, hm⟩ := untilE_prefix e l
      exact ⟨m, by rw [List.cons_append, ← hm]⟩
theorem untilE_all {e : Int} : ∀ {l : List Rec}, (∀ r ∈ l, r.ep ≤ e) → untilE e l = l
  | [], _ => rfl
  | r :: l, h => by
    unfold untilE
    rw [if_neg (by have := h r (by simp); omega), untilE_all fun q hq => h q (by simp [hq])]
theorem untilE_le {e : Int} : ∀ {l : List Rec}, ∀ r ∈ untilE e l, r.ep ≤ e
  | [], r, h => by simp [untilE] at h
  | q :: l, r, h => by
    unfold untilE at h
    split at h
    · cases h
    · rcases List.mem_cons.1 h with rfl | h
      · omega
      · exact untilE_le r h
theorem Rising.front : ∀ {l m : List Rec} {e : Int}, Rising e (l ++ m) → Rising e l
  | [], _, _, _ => trivial
  | r :: l, m, e, ⟨a, b, c⟩ => ⟨a, b, Rising.front c⟩
theorem Rising.le_last : ∀ {l : List Rec} {e : Int}, Rising e l → e ≤ lastE e l ∧ ∀ r ∈ l, r.ep ≤ lastE e l
  | [], e, _ => ⟨Int.le_refl _, by simp⟩
  | q :: l, e, ⟨a, b, c⟩ => by
    obtain ⟨h1, h2⟩ := Rising.le_last c
    refine ⟨by unfold lastE; omega, fun r hr => ?_⟩
    rcases List.mem_cons.1 hr with rfl | hr
    · exact h1
    · exact h2 r hr
/-- The program drops from behind. -/
theorem untilE_snoc {e : Int} {l : List Rec} {r : Rec} (h : Rising 0 (l ++ [r])) (hr : e < r.ep) : untilE e (l ++ [r]) = untilE e l := by
  induction l with
  | nil => simp [untilE, hr]
  | cons q l ih =>
    unfold Rising at h
    rw [List.cons_append, untilE, untilE]
    split
    · rfl
    · rw [ih]
      have : ∀ {l : List Rec} {e : Int}, 0 ≤ e → Rising e l → Rising 0 l := by
        intro l e he h
        cases l with
        | nil => trivial
        | cons a l => exact ⟨h.1, by have := h.2.1; omega, h.2.2⟩
      exact this (by have := (chkR_range h.1).1; omega) h.2.2
theorem found_take (d : Dsk) : d.b.take (9 * (found d).length) = encAll (found d) := by
  obtain ⟨m, hm⟩ := allB_prefix d.b
  obtain ⟨k, hk⟩ := untilE_prefix d.ep (allB d.b)
  have e : d.b = encAll (found d) ++ (encAll k ++ m) := by
    unfold found
    rw [← List.append_assoc, ← encAll_append, ← hk, ← hm]
  have hl := encAll_len (found d)
  generalize found d = f at *
  rw [e, List.take_append_of_le_length (by omega)]
  exact List.take_of_length_le (by omega)
theorem found_rising (d : Dsk) : Rising 0 (found d) := by
  obtain ⟨k, hk⟩ := untilE_prefix d.ep (allB d.b)
  have := allB_rising d.b
  rw [hk] at this
  exact this.front
theorem opened_yes {d : Dsk} (h : ¬ 100 ≤ d.ep) : opened d = (⟨d.ep + 1, encAll (found d)⟩, some ⟨behind (found d), d.ep + 1, false⟩, 0) := by
  rw [opened, if_neg h, found_take]

/-- Whole records of a disk, of epochs that were; behind them less than one. -/
structure Whole (d : Dsk) (l : List Rec) : Prop where
  rising : Rising 0 l
  le : ∀ r ∈ l, r.ep ≤ d.ep
  b : ∃ m, d.b = encAll l ++ m ∧ m.length < 9
theorem Whole.all {d : Dsk} {l : List Rec} (h : Whole d l) : allB d.b = l := by
  obtain ⟨m, hm, hl⟩ := h.b
  rw [hm]
  exact allB_encAll h.rising m hl
theorem Whole.found {d : Dsk} {l : List Rec} (h : Whole d l) : found d = l := by
  unfold Go.Proofs.Ytfihmpkkpgmdhaa.found
  rw [h.all]
  exact untilE_all h.le
theorem whole_opened {d : Dsk} (h : ¬ 100 ≤ d.ep) : Whole (opened d).1 (found d) := by
  rw [opened_yes h]
  refine ⟨found_rising d, fun r hr => ?_, [], by simp, by simp⟩
  have := untilE_le r hr
  dsimp only; omega
/-- A node of a disk: fenced, or down, or it has what the disk tells. -/
def Serves (d : Dsk) (n : Nod) (l : List Rec) : Prop :=
  (1 ≤ n.ep ∧ n.ep ≤ d.ep) ∧ n.t.In ∧ (n.ep = d.ep → n.down = false → d.b = encAll l ∧ n.t = behind l)
theorem serves_opened {d : Dsk} (h : ¬ 100 ≤ d.ep) (h0 : 0 ≤ d.ep) : Serves (opened d).1 ⟨behind (found d), d.ep + 1, false⟩ (found d) := by
  rw [opened_yes h]
  exact ⟨⟨by dsimp only; omega, by dsimp only; omega⟩, behind_in _, fun _ _ => ⟨rfl, rfl⟩⟩
theorem serves_raised {d : Dsk} {n : Nod} {l l' : List Rec} {d' : Dsk} (h : Serves d n l) (hd : d'.ep = d.ep + 1) : Serves d' n l' :=
  ⟨⟨h.1.1, by have := h.1.2; omega⟩, h.2.1, fun e => by have := h.1.2; omega⟩

/-- All that an order of a node may come to. -/
theorem order_cases {d : Dsk} {n : Nod} {l : List Rec} {o : Ord} {k : Nat} (hs : Serves d n l) (hd : d.Ok) (hk : k ≤ 9) :
    (n.down = true ∧ n.order d o k = (d, n, ⟨10, 0, 0⟩)) ∨
    (n.down = false ∧ n.ep < d.ep ∧ n.order d o k = (d, ⟨n.t, n.ep, true⟩, ⟨9, 0, 0⟩)) ∨
    (n.down = false ∧ n.ep = d.ep ∧ (n.t.did o).2.code ≠ 0 ∧ n.order d o k = (d, n, (n.t.did o).2)) ∨
    (n.down = false ∧ n.ep = d.ep ∧ (n.t.did o).2.code = 0 ∧ 1500 < d.b.length + k ∧ n.order d o k = (d, n, ⟨8, 0, 0⟩)) ∨
    (n.down = false ∧ n.ep = d.ep ∧ (n.t.did o).2.code = 0 ∧ d.b.length + k ≤ 1500 ∧ chkR ⟨n.ep, o⟩ = 0 ∧ n.order d o k = (⟨d.ep, d.b ++ (encB ⟨n.ep, o⟩).take k⟩, ⟨(n.t.did o).1, n.ep, false⟩, (n.t.did o).2)) := by
  have h1 := hs.1
  have h2 := hd.ep
  have hl : ((encB ⟨n.ep, o⟩).take k).length = k := by rw [List.length_take, encB_len]; omega
  unfold Nod.order
  by_cases a : n.down = true
  · exact .inl ⟨a, by rw [if_pos a]⟩
  · right
    have a' : n.down = false := by simpa using a
    rw [if_neg a]
    by_cases b : n.ep = d.ep
    · right
      rw [if_neg (by simpa using b)]
      by_cases c : (n.t.did o).2.code = 0
      · right
        rw [if_neg (by simpa using c)]
        have ha : d.append n.ep ((encB ⟨n.ep, o⟩).take k) = if 1500 < d.b.length + k then (d, 8) else (⟨d.ep, d.b ++ (encB ⟨n.ep, o⟩).take k⟩, 0) := by
          rw [Dsk.append, if_neg (by omega), hl]
        rw [ha]
        by_cases e : 1500 < d.b.length + k
        · left
          exact ⟨a', b, c, e, by rw [if_pos e, if_pos (by simp)]⟩
        · right
          refine ⟨a', b, c, by omega, ?_, by rw [if_neg e, if_neg (by simp), a']⟩
          have hc : chk o = 0 := by
            rcases did_shape n.t o with ⟨e0, _⟩ | ⟨hc, _⟩
            · exact absurd c e0
            · exact hc
          unfold chkR
          rw [if_neg (by dsimp only; omega)]
          exact hc
      · left
        exact ⟨a', b, c, by rw [if_pos c]⟩
    · left
      exact ⟨a', by omega, by rw [if_pos b]⟩
end Go.Proofs.Ytfihmpkkpgmdhaa
