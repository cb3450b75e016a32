/-
  The package guild, walked: a step of a node; open; Node; Now; New.
-/
import Derived.Test.YtfihmpkkpgmdhacNodeN
import Derived.Test.YtfihmpkkpgmdhacPlainM
namespace Go.Proofs.Ytfihmpkkpgmdhac
set_option linter.unusedSimpArgs false
set_option linter.unusedVariables false
open Go.RowKit
/-- What a step of a node does. -/
def gact (d : Dsk) (n : Nod) (kd kp : Int) (o : Ord) : Dsk × Nod × Ans :=
  if kd = 2 then n.order d o 9 else if kd = 3 then ((n.tear d o (keepN kp)).1, (n.tear d o (keepN kp)).2.1, ⟨(n.tear d o (keepN kp)).2.2, 0, 0⟩) else (d, ⟨n.t, n.ep, true⟩, ⟨0, 0, 0⟩)
def scells (kd x kp : Int) (o : Ord) : List Value := [.int .i64 kd, .int .i64 x, .int .i64 kp, .int .i64 o.kind, .int .i64 o.now, .int .i64 o.job, .int .i64 o.tr, .int .i64 o.wk, .int .i64 o.tm]
set_option maxRecDepth 100000 in
set_option maxHeartbeats 4000000 in
theorem gnode_sl (bg bn bd : Nat) (d : Dsk) (n : Nod) (kd x kp c nw j r k m : Int) (w : World) {R : HP} (h : Holds w (nod bn bd n * (dsk bd d * R))) (hd : d.Ok) (he : 1 ≤ n.ep) (hok : n.t.Ok) :
    Calls Try.prog 33 #[.pointer (some ⟨bg, 0, none⟩), .pointer (some ⟨bn, 0, none⟩), .agg #[.int .i64 kd, .int .i64 x, .int .i64 kp, .int .i64 c, .int .i64 nw, .int .i64 j, .int .i64 r, .int .i64 k, .int .i64 m]] w
      (Post w (dsk bd (gact d n kd kp ⟨c, nw, j, r, k, m⟩).1 * R) (gact d n kd kp ⟨c, nw, j, r, k, m⟩).2.2.val (nod bn bd (gact d n kd kp ⟨c, nw, j, r, k, m⟩).2.1)) := by
  have hord := fun W (R' : HP) (h : Holds W (nod bn bd n * (dsk bd d * R'))) => nOrder_sl bn bd d n c nw j r k m W h hd he hok
  have htear := fun W (R' : HP) (h : Holds W (nod bn bd n * (dsk bd d * R'))) => nTear_sl bn bd d n c nw j r k m kp W h hd he hok
  obtain ⟨w0, hw0, H0, Q0⟩ : ∃ w0, (w.alloc (.cells #[.int .i64 kd, .int .i64 x, .int .i64 kp, .int .i64 c, .int .i64 nw, .int .i64 j, .int .i64 r, .int .i64 k, .int .i64 m] 30)).alloc (.cells #[.int .i64 0, .int .i64 0, .int .i64 0] 32) = w0 ∧ Hid (Holds w0 (bl (w.heap.size + 1) 32 [.int .i64 0, .int .i64 0, .int .i64 0] * (bl w.heap.size 30 [.int .i64 kd, .int .i64 x, .int .i64 kp, .int .i64 c, .int .i64 nw, .int .i64 j, .int .i64 r, .int .i64 k, .int .i64 m] * (nod bn bd n * (dsk bd d * R))))) ∧ Hid (Quiet w w0) :=
    ⟨_, rfl, Lib.hid ((h.boxB (ty := 30) (cs := [.int .i64 kd, .int .i64 x, .int .i64 kp, .int .i64 c, .int .i64 nw, .int .i64 j, .int .i64 r, .int .i64 k, .int .i64 m]) rfl).boxB (ty := 32) (cs := [.int .i64 0, .int .i64 0, .int .i64 0]) (g := w.heap.size + 1) (by simp)), Lib.hid (((Quiet.refl w).alloc _).alloc _)⟩
  clear h hd he hok
  obtain ⟨g0, hg0⟩ : ∃ g0, w.heap.size = g0 := ⟨_, rfl⟩
  rw [hg0] at H0
  obtain ⟨ga, hga⟩ : ∃ ga, g0 + 1 = ga := ⟨_, rfl⟩
  rw [hga] at H0
  have co := H0.out.two.bl.cells
  unfold gact
  by_cases h2 : kd = 2
  · subst h2
    rw [if_pos rfl]
    obtain ⟨⟨d', n', ⟨a1, a2, a3⟩⟩, hX⟩ : ∃ X, n.order d ⟨c, nw, j, r, k, m⟩ 9 = X := ⟨_, rfl⟩
    rw [hX] at hord ⊢
    have HO := Lib.hid hord
    clear hord htear hX
    go_enter Try.func33, Try.ntmps33
    go_wp2_with fail
    clear hw0 hg0 hga
    refine (HO.out _ (bl ga 32 [.int .i64 0, .int .i64 0, .int .i64 0] * R) (H0.out.eq (by ac_rfl : _ = bl g0 30 [.int .i64 2, .int .i64 x, .int .i64 kp, .int .i64 c, .int .i64 nw, .int .i64 j, .int .i64 r, .int .i64 k, .int .i64 m] * (nod bn bd n * (dsk bd d * (bl ga 32 [.int .i64 0, .int .i64 0, .int .i64 0] * R))))).right).mono ?_
    rintro e w1 ⟨rfl, q1, h1⟩
    have h2 := h1.eq (by ac_rfl : _ = bl ga 32 [.int .i64 0, .int .i64 0, .int .i64 0] * (nod bn bd n' * (dsk bd d' * R)))
    have ca := h2.bl.cells
    have fa := h2.bl.frees
    have la := h2.bl.lt
    have H2 := Lib.hid h2; have Q2 := Lib.hid (Q0.out.trans q1)
    clear h1 h2 q1 co H0 Q0
    simp only [Ans.val]
    go_wp2
    have hf := ((H2.out.setB 0 (.int .i64 a1)).setB 1 (.int .i64 a2)).setB 2 (.int .i64 a3)
    have hl := run_load_part (P := Try.prog) (off := 0) (ty := 32) (vs := [.int .i64 a1, .int .i64 a2, .int .i64 a3]) hf.bl rfl Try.underlying32 rfl (by kernel_rfl)
    exact bodyPost_ret (results_cell1 rfl rfl hl) rfl ⟨rfl, ((Q2.out.setCell _ _).setCell _ _).setCell _ _, hf.right⟩
  · rw [if_neg h2]
    have hk2 : (kd == 2) = false := by simpa using h2
    clear h2
    by_cases h3 : kd = 3
    · subst h3
      rw [if_pos rfl]
      obtain ⟨⟨d', n', a1⟩, hX⟩ : ∃ X, n.tear d ⟨c, nw, j, r, k, m⟩ (keepN kp) = X := ⟨_, rfl⟩
      rw [hX] at htear ⊢
      have HO := Lib.hid htear
      clear hord htear hX
      go_enter Try.func33, Try.ntmps33
      go_wp2_with fail
      clear hw0 hg0 hga
      refine (HO.out _ (bl ga 32 [.int .i64 0, .int .i64 0, .int .i64 0] * R) (H0.out.eq (by ac_rfl : _ = bl g0 30 [.int .i64 3, .int .i64 x, .int .i64 kp, .int .i64 c, .int .i64 nw, .int .i64 j, .int .i64 r, .int .i64 k, .int .i64 m] * (nod bn bd n * (dsk bd d * (bl ga 32 [.int .i64 0, .int .i64 0, .int .i64 0] * R))))).right).mono ?_
      rintro e w1 ⟨rfl, q1, h1⟩
      have h2 := h1.eq (by ac_rfl : _ = bl ga 32 [.int .i64 0, .int .i64 0, .int .i64 0] * (nod bn bd n' * (dsk bd d' * R)))
      have ca := h2.bl.cells
      have fa := h2.bl.frees
      have la := h2.bl.lt
      have H2 := Lib.hid h2; have Q2 := Lib.hid (Q0.out.trans q1)
      clear h1 h2 q1 co H0 Q0
      simp only [Ans.val]
      go_wp2
      have hf := ((H2.out.setB 0 (.int .i64 a1)).setB 1 (.int .i64 0)).setB 2 (.int .i64 0)
      have hl := run_load_part (P := Try.prog) (off := 0) (ty := 32) (vs := [.int .i64 a1, .int .i64 0, .int .i64 0]) hf.bl rfl Try.underlying32 rfl (by kernel_rfl)
      exact bodyPost_ret (results_cell1 rfl rfl hl) rfl ⟨rfl, ((Q2.out.setCell _ _).setCell _ _).setCell _ _, hf.right⟩
    · rw [if_neg h3]
      have hk3 : (kd == 3) = false := by simpa using h3
      clear h3 hord htear
      go_enter Try.func33, Try.ntmps33
      go_wp2_with fail
      clear hw0 hg0 hga
      refine (nStop_sl bn bd n _ (H0.out.three)).mono ?_
      rintro e w1 ⟨rfl, q1, h1⟩
      have h2 := h1.two
      have ca := h2.bl.cells
      have fa := h2.bl.frees
      have la := h2.bl.lt
      have H2 := Lib.hid h2; have Q2 := Lib.hid (Q0.out.trans q1)
      clear h1 h2 q1 co H0 Q0
      simp only [Ans.val]
      go_wp2
      have hf := ((H2.out.setB 0 (.int .i64 0)).setB 1 (.int .i64 0)).setB 2 (.int .i64 0)
      have hl := run_load_part (P := Try.prog) (off := 0) (ty := 32) (vs := [.int .i64 0, .int .i64 0, .int .i64 0]) hf.bl rfl Try.underlying32 rfl (by kernel_rfl)
      exact bodyPost_ret (results_cell1 rfl rfl hl) rfl ⟨rfl, ((Q2.out.setCell _ _).setCell _ _).setCell _ _, hf.right.two.right⟩

/-- A node, or none, at a pointer. -/
def onod (v : Value) (bd : Nat) : Option Nod → HP
  | none => HP.wi (v = .pointer none) HP.emp
  | some n => HP.ex fun bn : Nat => HP.wi (v = .pointer (some ⟨bn, 0, none⟩)) (nod bn bd n)
theorem wi_open {p : Prop} {A R : HP} {w : World} (h : Holds w (HP.wi p A * R)) : p ∧ Holds w (A * R) := by
  obtain ⟨F, F1, F2, hd, hF, ⟨hp, ha⟩, hb⟩ := h
  exact ⟨hp, F, F1, F2, hd, hF, ha, hb⟩
theorem wi_close {p : Prop} {A R : HP} {w : World} (hp : p) (h : Holds w (A * R)) : Holds w (HP.wi p A * R) := by
  obtain ⟨F, F1, F2, hd, hF, ha, hb⟩ := h
  exact ⟨F, F1, F2, hd, hF, ⟨hp, ha⟩, hb⟩
theorem emp_mul {A : HP} {w : World} (h : Holds w A) : Holds w (HP.emp * A) := by
  obtain ⟨F, hF⟩ := h
  exact ⟨F, fun _ => False, F, fun _ h => h.elim, fun k => by simp, fun k h => h, hF⟩
theorem onod_none {v : Value} {bd : Nat} {R : HP} {w : World} (h : Holds w (onod v bd none * R)) : v = .pointer none ∧ Holds w R := by
  obtain ⟨hp, h⟩ := wi_open h
  exact ⟨hp, h.right⟩
theorem onod_some {v : Value} {bd : Nat} {n : Nod} {R : HP} {w : World} (h : Holds w (onod v bd (some n) * R)) : ∃ bn : Nat, v = .pointer (some ⟨bn, 0, none⟩) ∧ Holds w (nod bn bd n * R) := by
  obtain ⟨bn, h⟩ := HP.ex_mul h
  obtain ⟨hp, h⟩ := wi_open h
  exact ⟨bn, hp, h⟩
theorem onod_mk {bn bd : Nat} {n : Nod} {R : HP} {w : World} (h : Holds w (nod bn bd n * R)) : Holds w (onod (.pointer (some ⟨bn, 0, none⟩)) bd (some n) * R) :=
  HP.mul_ex (A := fun bn' : Nat => HP.wi (Value.pointer (some ⟨bn, 0, none⟩) = .pointer (some ⟨bn', 0, none⟩)) (nod bn' bd n)) (x := bn) (wi_close rfl h)
theorem onod_mkNone {bd : Nat} {R : HP} {w : World} (h : Holds w R) : Holds w (onod (.pointer none) bd none * R) := wi_close rfl (emp_mul h)
def nodes3 (bd : Nat) (vs : Nat → Value) (f : Nat → Option Nod) : HP := onod (vs 0) bd (f 0) * (onod (vs 1) bd (f 1) * onod (vs 2) bd (f 2))
/-- All but the i-th. -/
def nrest (bd : Nat) (vs : Nat → Value) (f : Nat → Option Nod) (i : Nat) : HP :=
  if i = 0 then onod (vs 1) bd (f 1) * onod (vs 2) bd (f 2) else if i = 1 then onod (vs 0) bd (f 0) * onod (vs 2) bd (f 2) else onod (vs 0) bd (f 0) * onod (vs 1) bd (f 1)
theorem nodes3_pick (bd : Nat) (vs : Nat → Value) (f : Nat → Option Nod) {i : Nat} (hi : i < 3) : nodes3 bd vs f = onod (vs i) bd (f i) * nrest bd vs f i := by
  unfold nodes3 nrest
  match i, hi with
  | 0, _ => rfl
  | 1, _ => simp only [if_neg (show ¬ (1 : Nat) = 0 by decide), if_true]; ac_rfl
  | 2, _ => simp only [if_neg (show ¬ (2 : Nat) = 0 by decide), if_neg (show ¬ (2 : Nat) = 1 by decide)]; ac_rfl
def updV (vs : Nat → Value) (i : Nat) (v : Value) : Nat → Value := fun k => if k = i then v else vs k
theorem nodes3_put (bd : Nat) (vs : Nat → Value) (f : Nat → Option Nod) {i : Nat} (hi : i < 3) (v : Value) (n : Nod) : nodes3 bd (updV vs i v) (putN f i n) = onod v bd (some n) * nrest bd vs f i := by
  rw [nodes3_pick _ _ _ hi]
  have e : nrest bd (updV vs i v) (putN f i n) i = nrest bd vs f i := by
    unfold nrest updV putN
    match i, hi with
    | 0, _ | 1, _ | 2, _ => simp
  rw [e]
  simp [updV, putN]
theorem updV_self (vs : Nat → Value) (i : Nat) : updV vs i (vs i) = vs := by
  funext k
  unfold updV
  split
  · subst_vars; rfl
  · rfl
def gcells (bd : Nat) (vs : Nat → Value) (now : Int) : List Value := [.pointer (some ⟨bd, 0, none⟩), vs 0, vs 1, vs 2, .int .i64 now]
def gblk (bg bd : Nat) (vs : Nat → Value) (now : Int) : HP := bl bg 49 (gcells bd vs now)
theorem gcells_get (bd : Nat) (vs : Nat → Value) (now : Int) {i : Nat} (hi : i < 3) : (gcells bd vs now)[1 + i]? = some (vs i) := by
  match i, hi with
  | 0, _ | 1, _ | 2, _ => rfl
theorem gcells_set (bd : Nat) (vs : Nat → Value) (now : Int) {i : Nat} (hi : i < 3) (v : Value) : (gcells bd vs now).set (1 + i) v = gcells bd (updV vs i v) now := by
  match i, hi with
  | 0, _ | 1, _ | 2, _ => rfl
end Go.Proofs.Ytfihmpkkpgmdhac
