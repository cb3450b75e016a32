/-
  What stands in memory: a table of jobs. Small facts on worlds.
-/
import Derived.Test.YtfihmpkkpgmdhabProg
import Derived.Test.YtfihmpkkpgmdhabPlainM
import Derived.WalkKit
import Derived.WalkLawsBesides
import Derived.WalkSpells
import Derived.Lib.Hide
import Derived.Deep.QuietTactic
import Derived.BigQuiet
namespace Go.Proofs.Ytfihmpkkpgmdhab
open Go.RowKit

def jcells (j : Job) : List Value := [.int .i64 j.st, .int .i64 j.wk, .int .i64 j.tr, .int .i64 j.un]
def tcells (t : Tbl) : List Value := jcells (t.jobs 0) ++ (jcells (t.jobs 1) ++ (jcells (t.jobs 2) ++ (jcells (t.jobs 3) ++ (jcells (t.jobs 4) ++ (jcells (t.jobs 5) ++ [.int .i64 t.now])))))
def Job.val (j : Job) : Value := .agg (jcells j).toArray
def Ans.val (a : Ans) : Value := .agg #[.int .i64 a.code, .int .i64 a.job, .int .i64 a.tr]

/-- Block b holds these cells, of this type; none is frozen. -/
def BlockAt (w : World) (b : Nat) (ty : TypeId) (cs : List Value) : Prop := w.heap[b]? = some (.cells cs.toArray ty (0, 0))

def TableAt (w : World) (b : Nat) (t : Tbl) : Prop := BlockAt w b 103 (tcells t)

theorem BlockAt.lt {w : World} {b : Nat} {ty : TypeId} {cs : List Value} (h : BlockAt w b ty cs) : b < w.heap.size :=
  (Array.getElem?_eq_some_iff.1 h).1
theorem BlockAt.cell {w : World} {b : Nat} {ty : TypeId} {cs : List Value} (h : BlockAt w b ty cs) (o : Nat) (v : Value) (hv : cs[o]? = some v) : w.cell? ⟨b, o, none⟩ = some v := by
  unfold BlockAt at h
  simp [World.cell?, h, hv]
theorem BlockAt.free {w : World} {b : Nat} {ty : TypeId} {cs : List Value} (h : BlockAt w b ty cs) (o : Nat) : w.frozen? ⟨b, o, none⟩ = false := by
  unfold BlockAt at h
  simp [World.frozen?, h]
theorem BlockAt.set {w : World} {b : Nat} {ty : TypeId} {cs : List Value} (h : BlockAt w b ty cs) (o : Nat) (v : Value) : BlockAt (w.setCell ⟨b, o, none⟩ v) b ty (cs.set o v) := by
  unfold BlockAt at *
  simp only [World.setCell, Array.getElem?_modify, if_true, h]
  simp
theorem BlockAt.other {w w' : World} {b : Nat} {ty : TypeId} {cs : List Value} {row : Option Nat} (h : BlockAt w b ty cs) (hg : w.grownBy w' row) (hne : some b ≠ row) : BlockAt w' b ty cs := by
  have hb := hg.block b h.lt hne
  unfold BlockAt at *
  rw [hb]; exact h
theorem BlockAt.new (w : World) (ty : TypeId) (cs : List Value) : BlockAt (w.alloc (.cells cs.toArray ty)) w.heap.size ty cs := heap_alloc_new w _
/-- Blocks of two types are two. -/
theorem BlockAt.ne {w : World} {b b' : Nat} {ty ty' : TypeId} {cs cs' : List Value} (h : BlockAt w b ty cs) (h' : BlockAt w b' ty' cs') (hne : ty ≠ ty') : b ≠ b' := by
  rintro rfl
  unfold BlockAt at *
  rw [h] at h'
  simp at h'
  exact hne h'.2

theorem tcells_job (t : Tbl) (i : Nat) (hi : i < 6) : (tcells t)[4 * i]? = some (.int .i64 (t.jobs i).st) ∧ (tcells t)[4 * i + 1]? = some (.int .i64 (t.jobs i).wk) ∧ (tcells t)[4 * i + 2]? = some (.int .i64 (t.jobs i).tr) ∧ (tcells t)[4 * i + 3]? = some (.int .i64 (t.jobs i).un) := by
  match i, hi with
  | 0, _ | 1, _ | 2, _ | 3, _ | 4, _ | 5, _ => exact ⟨rfl, rfl, rfl, rfl⟩
theorem tcells_now (t : Tbl) : (tcells t)[24]? = some (.int .i64 t.now) := rfl
theorem tcells_set (t : Tbl) (i : Nat) (hi : i < 6) (j : Job) : ((((tcells t).set (4 * i) (.int .i64 j.st)).set (4 * i + 1) (.int .i64 j.wk)).set (4 * i + 2) (.int .i64 j.tr)).set (4 * i + 3) (.int .i64 j.un) = tcells (t.set i j) := by
  match i, hi with
  | 0, _ | 1, _ | 2, _ | 3, _ | 4, _ | 5, _ => rfl
theorem tcells_setNow (t : Tbl) (n : Int) : (tcells t).set 24 (.int .i64 n) = tcells ⟨t.jobs, n⟩ := rfl

/-- The four cells of job k, at the walk's own spelling. -/
theorem TableAt.job {w : World} {b : Nat} {t : Tbl} (h : TableAt w b t) {k : Nat} (hk : k < 6) :
    w.cell? ⟨b, k * 4, none⟩ = some (.int .i64 (t.jobs k).st) ∧ w.cell? ⟨b, k * 4 + 1, none⟩ = some (.int .i64 (t.jobs k).wk) ∧
    w.cell? ⟨b, k * 4 + 2, none⟩ = some (.int .i64 (t.jobs k).tr) ∧ w.cell? ⟨b, k * 4 + 3, none⟩ = some (.int .i64 (t.jobs k).un) := by
  rw [Nat.mul_comm]
  obtain ⟨a, b, c, d⟩ := tcells_job t k hk
  exact ⟨h.cell _ _ a, h.cell _ _ b, h.cell _ _ c, h.cell _ _ d⟩
theorem TableAt.setJob {w : World} {b : Nat} {t : Tbl} (h : TableAt w b t) {k : Nat} (hk : k < 6) (j : Job) :
    TableAt ((((w.setCell ⟨b, k * 4, none⟩ (.int .i64 j.st)).setCell ⟨b, k * 4 + 1, none⟩ (.int .i64 j.wk)).setCell ⟨b, k * 4 + 2, none⟩ (.int .i64 j.tr)).setCell ⟨b, k * 4 + 3, none⟩ (.int .i64 j.un)) b (t.set k j) := by
  unfold TableAt
  rw [← tcells_set t k hk j, Nat.mul_comm k 4]
  exact (((BlockAt.set h _ _).set _ _).set _ _).set _ _
theorem grown_setCell {a w : World} {g : Nat} (h : a.grownBy w (some g)) (o : Nat) (u : Value) : a.grownBy (w.setCell ⟨g, o, none⟩ u) (some g) :=
  ⟨h.os, h.tape, h.output, by simpa [World.setCell] using h.size, fun i hi hne => (Below.heap_setCell w _ u i (by
    rintro rfl
    exact hne rfl)).trans (h.block i hi hne)⟩
theorem grown_refl (w : World) (r : Option Nat) : w.grownBy w r := ⟨rfl, rfl, rfl, Nat.le_refl _, fun _ _ _ => rfl⟩
theorem grown_trans {a b c : World} {r : Option Nat} (h : a.grownBy b r) (k : b.grownBy c r) : a.grownBy c r :=
  ⟨k.os.trans h.os, k.tape.trans h.tape, k.output.trans h.output, Nat.le_trans h.size k.size, fun i hi hne => (k.block i (Nat.lt_of_lt_of_le hi h.size) hne).trans (h.block i hi hne)⟩
theorem grown_drewN {a w : World} {r : Option Nat} (h : a.grownBy w r) (n : Nat) : a.grownBy (w.drewN n) r := ⟨h.os, h.tape, h.output, h.size, h.block⟩
theorem grown_drew {a w : World} {r : Option Nat} (h : a.grownBy w r) : a.grownBy w.drew r := ⟨h.os, h.tape, h.output, h.size, h.block⟩
theorem grown_alloc {a w : World} {r : Option Nat} (h : a.grownBy w r) (o : Obj) : a.grownBy (w.alloc o) r :=
  ⟨h.os, h.tape, h.output, Nat.le_trans h.size (by simp), fun i hi hne => (Below.heap_alloc w o i (Nat.lt_of_lt_of_le hi h.size)).trans (h.block i hi hne)⟩
theorem BlockAt.drewN {w : World} {b : Nat} {ty : TypeId} {cs : List Value} (h : BlockAt w b ty cs) (n : Nat) : BlockAt (w.drewN n) b ty cs := h
theorem BlockAt.drew {w : World} {b : Nat} {ty : TypeId} {cs : List Value} (h : BlockAt w b ty cs) : BlockAt w.drew b ty cs := h
theorem BlockAt.alloc {w : World} {b : Nat} {ty : TypeId} {cs : List Value} (h : BlockAt w b ty cs) (o : Obj) : BlockAt (w.alloc o) b ty cs :=
  h.other (grown_alloc (grown_refl w none) o) (by simp)
/-- Two tables that agree on the six jobs stand in the same cells. -/
theorem tcells_congr {t u : Tbl} (hj : ∀ i, i < 6 → t.jobs i = u.jobs i) (hn : t.now = u.now) : tcells t = tcells u := by
  unfold tcells
  rw [hj 0 (by omega), hj 1 (by omega), hj 2 (by omega), hj 3 (by omega), hj 4 (by omega), hj 5 (by omega), hn]
theorem TableAt.congr {w : World} {b : Nat} {t u : Tbl} (h : TableAt w b t) (hj : ∀ i, i < 6 → t.jobs i = u.jobs i) (hn : t.now = u.now) : TableAt w b u := by
  unfold TableAt at *
  rwa [← tcells_congr hj hn]

/-- Single cells each: what a store writes. -/
def Ones (cs : List Value) : Prop := ∀ v ∈ cs, v.oneCell' = true
theorem BlockAt.setRow {w : World} {g : Nat} {t : TypeId} {cs : List Value} (h : BlockAt w g t cs) (cs' : List Value) : BlockAt (w.setRow g cs'.toArray) g t cs' := setRow_heap w g cs.toArray _ t _ h
theorem grown_setRow {a w : World} {g : Nat} (h : a.grownBy w (some g)) (cs : Array Value) : a.grownBy (w.setRow g cs) (some g) :=
  ⟨h.os, h.tape, h.output, by simpa using h.size, fun i hi hne => (setRow_other w g i cs (fun e => hne (by rw [e]))).trans (h.block i hi hne)⟩
section
variable {P : Program}
/-- A struct (or an array) that is a piece of a block, loaded as one value. -/
theorem run_load_part {w : World} {g off : Nat} {t ty : TypeId} {cs vs : List Value} {d : TypeDesc} (hb : BlockAt w g t cs) (hvs : (cs.drop off).take vs.length = vs)
    (hu : P.underlying ty = some d) (hd : (match d with | .struct _ | .array _ _ => true | _ => false) = true) (hi : (P.info? ty).map (·.size) = some vs.length) :
    (loadVar ty ⟨g, off, none⟩).run P w = .ok (.agg vs.toArray) w := by
  have hl : (loadCells ⟨g, off, none⟩ vs.length).run P w = .ok vs.toArray w :=
    run_loadCells_list (P := P) w ⟨g, off, none⟩ vs (fun j v hv => by
      have hadd : (⟨g, off, none⟩ : Addr).add j = ⟨g, off + j, none⟩ := by unfold Addr.add; split <;> simp_all
      rw [hadd]
      refine hb.cell _ _ ?_
      rw [← hvs, List.getElem?_take] at hv
      split at hv
      · rwa [List.getElem?_drop] at hv
      · cases hv)
  cases hq : P.info? ty with
  | none => simp [hq] at hi
  | some i =>
    have hs : i.size = vs.length := by simpa [hq] using hi
    have hagg : (isAgg ty).run P w = .ok true w := by
      unfold isAgg
      rw [Sem.run_bind, run_underlying hu w]
      cases d <;> simp_all
    simp [loadVar, Sem.run_bind, hagg, sizeOf, typeInfo, hq, hs, hl]
theorem wpList_load_part {ops : Array Oper} {rest : List Oper} {o : Oper} {a : Act} {w : World} {Q : Exit → Act → World → Prop} (hgd : o.guard = none) (ty : TypeId) (x : Operand) (ho : o.op = .load ty x)
    (g off : Nat) (hx : a.eval x = .pointer (some ⟨g, off, none⟩)) {t : TypeId} {cs : List Value} (vs : List Value) {d : TypeDesc} (hb : BlockAt w g t cs) (hvs : (cs.drop off).take vs.length = vs)
    (hu : P.underlying ty = some d) (hd : (match d with | .struct _ | .array _ _ => true | _ => false) = true) (hi : (P.info? ty).map (·.size) = some vs.length)
    (h : wpList P ops Q rest (a.put o.dst (.agg vs.toArray)) w) : wpList P ops Q (o :: rest) a w :=
  wpList_plain hgd fun _ hK => by
    unfold Oper.wp execOp
    simp only [ho, hx, Instr.loadAt, Instr.sureAddr, Sem.run_bind, Sem.run_pure, Result.andThen_ok, run_load_part hb hvs hu hd hi]
    exact hK _ _ h
/-- A struct (or an array) stored into a piece of a block. -/
theorem run_store_part {w : World} {g off : Nat} {t ty : TypeId} {cs vs : List Value} (hb : BlockAt w g t cs) (hfit : off + vs.length ≤ cs.length)
    (hi : (P.info? ty).map (·.size) = some vs.length) (h1 : Ones vs) :
    (storeVar ty ⟨g, off, none⟩ (.agg vs.toArray)).run P w = .ok () (w.setRow g (cs.take off ++ vs ++ cs.drop (off + vs.length)).toArray) := by
  have hst := run_storeCells_at P g off t vs 0 cs.toArray w hb (by simpa using hfit) h1
  cases hq : P.info? ty with
  | none => simp [hq] at hi
  | some i =>
    have hs : vs.length = i.size := by simp [hq] at hi; omega
    simp only [Nat.add_zero] at hst
    simp [storeVar, sizeOf, typeInfo, hq, Value.cells, hs]
    simpa [hs] using hst
theorem wpList_store_part {ops : Array Oper} {rest : List Oper} {o : Oper} {a : Act} {w : World} {Q : Exit → Act → World → Prop} (hgd : o.guard = none) (ty : TypeId) (x y : Operand) (ho : o.op = .store ty x y)
    (g off : Nat) (vs : List Value) (hx : a.eval x = .pointer (some ⟨g, off, none⟩)) (hy : a.eval y = .agg vs.toArray) {t : TypeId} {cs : List Value} (hb : BlockAt w g t cs) (hfit : off + vs.length ≤ cs.length)
    (hi : (P.info? ty).map (·.size) = some vs.length) (h1 : Ones vs)
    (h : ∀ w', BlockAt w' g t (cs.take off ++ vs ++ cs.drop (off + vs.length)) → w.grownBy w' (some g) → w'.heap.size = w.heap.size → wpList P ops Q rest (a.put o.dst undef) w') : wpList P ops Q (o :: rest) a w :=
  wpList_plain hgd fun _ hK => by
    unfold Oper.wp execOp
    simp only [ho, hx, hy, Instr.storeAt, Instr.sureAddr, Sem.run_bind, Sem.run_pure, Result.andThen_ok, run_store_part hb hfit hi h1]
    exact hK _ _ (h _ (hb.setRow _) (grown_setRow (grown_refl w _) _) (by simp))
/-- The whole of it. -/
theorem wpList_load_whole {ops : Array Oper} {rest : List Oper} {o : Oper} {a : Act} {w : World} {Q : Exit → Act → World → Prop} (hgd : o.guard = none) (ty : TypeId) (x : Operand) (ho : o.op = .load ty x)
    (g : Nat) (hx : a.eval x = .pointer (some ⟨g, 0, none⟩)) {t : TypeId} (vs : List Value) {d : TypeDesc} (hb : BlockAt w g t vs)
    (hu : P.underlying ty = some d) (hd : (match d with | .struct _ | .array _ _ => true | _ => false) = true) (hi : (P.info? ty).map (·.size) = some vs.length)
    (h : wpList P ops Q rest (a.put o.dst (.agg vs.toArray)) w) : wpList P ops Q (o :: rest) a w :=
  wpList_load_part hgd ty x ho g 0 hx vs hb (by simp) hu hd hi h
theorem wpList_store_whole {ops : Array Oper} {rest : List Oper} {o : Oper} {a : Act} {w : World} {Q : Exit → Act → World → Prop} (hgd : o.guard = none) (ty : TypeId) (x y : Operand) (ho : o.op = .store ty x y)
    (g : Nat) (vs : List Value) (hx : a.eval x = .pointer (some ⟨g, 0, none⟩)) (hy : a.eval y = .agg vs.toArray) {t : TypeId} {cs : List Value} (hb : BlockAt w g t cs) (hfit : vs.length = cs.length)
    (hi : (P.info? ty).map (·.size) = some vs.length) (h1 : Ones vs)
    (h : ∀ w', BlockAt w' g t vs → w.grownBy w' (some g) → w'.heap.size = w.heap.size → wpList P ops Q rest (a.put o.dst undef) w') : wpList P ops Q (o :: rest) a w :=
  wpList_store_part hgd ty x y ho g 0 vs hx hy hb (by omega) hi h1 fun w' h2 h3 h4 => h w' (by simpa [hfit] using h2) h3 h4
end
theorem tcells_len (t : Tbl) : (tcells t).length = 25 := rfl
theorem tcells_ones (t : Tbl) : Ones (tcells t) := by
  intro v hv
  simp only [tcells, jcells, List.cons_append, List.nil_append, List.mem_cons, List.not_mem_nil, or_false] at hv
  rcases hv with h | h | h | h | h | h | h | h | h | h | h | h | h | h | h | h | h | h | h | h | h | h | h | h | h <;> subst h <;> rfl

/-- What a walk wants of a block: all its cells by one rule, none frozen. -/
theorem BlockAt.cells {w : World} {b : Nat} {ty : TypeId} {cs : List Value} (h : BlockAt w b ty cs) : ∀ o, w.cell? ⟨b, o, none⟩ = cs[o]? := by
  intro o
  unfold BlockAt at h
  simp [World.cell?, h]
theorem BlockAt.frees {w : World} {b : Nat} {ty : TypeId} {cs : List Value} (h : BlockAt w b ty cs) : ∀ o, w.frozen? ⟨b, o, none⟩ = false := fun o => h.free o
theorem BlockAt.setOther {w : World} {b : Nat} {ty : TypeId} {cs : List Value} (h : BlockAt w b ty cs) {p : Addr} (hp : b ≠ p.block) (u : Value) : BlockAt (w.setCell p u) b ty cs := by
  unfold BlockAt at *
  rw [Below.heap_setCell _ _ _ _ hp]
  exact h
theorem BlockAt.below {w w' : World} {b B : Nat} {ty : TypeId} {cs : List Value} (h : BlockAt w b ty cs) (hg : Below B w w') (hb : b < B) : BlockAt w' b ty cs := by
  unfold BlockAt at *
  rw [hg.block b hb]; exact h
theorem grown_setNew {a w : World} {r : Option Nat} (h : a.grownBy w r) {p : Addr} (hp : a.heap.size ≤ p.block) (u : Value) : a.grownBy (w.setCell p u) r :=
  ⟨h.os, h.tape, h.output, by simpa [World.setCell] using h.size, fun i hi hne => (Below.heap_setCell w p u i (by omega)).trans (h.block i hi hne)⟩
theorem below_grown {w w' : World} (h : Below w.heap.size w w') (r : Option Nat) : w.grownBy w' r := ⟨h.os, h.tape, h.output, h.size, fun i hi _ => h.block i hi⟩
/-- Grown from a world that had itself grown: a row that was not there counts for nothing. -/
theorem grown_then {a b c : World} {r r' : Option Nat} (h : a.grownBy b r) (k : b.grownBy c r') (hr : r' = r ∨ ∃ x, r' = some x ∧ a.heap.size ≤ x) : a.grownBy c r :=
  ⟨k.os.trans h.os, k.tape.trans h.tape, k.output.trans h.output, Nat.le_trans h.size k.size, fun i hi hne => (k.block i (Nat.lt_of_lt_of_le hi h.size) (by
    rcases hr with rfl | ⟨x, rfl, hx⟩
    · exact hne
    · simp; omega)).trans (h.block i hi hne)⟩
theorem below_then {a b c : World} {r : Option Nat} (h : Below a.heap.size a b) (k : b.grownBy c r) (hr : ∀ x, r = some x → a.heap.size ≤ x) : Below a.heap.size a c :=
  h.grown k h.size hr

theorem tcells_setSt (t : Tbl) (i : Nat) (hi : i < 6) (hz : t.jobs i = Job.zero) : (tcells t).set (4 * i) (.int .i64 1) = tcells (t.set i ⟨1, 0, 0, 0⟩) := by
  match i, hi, hz with
  | 0, _, hz | 1, _, hz | 2, _, hz | 3, _, hz | 4, _, hz | 5, _, hz => simp [tcells, jcells, Tbl.set, hz, Job.zero]
theorem tcells_setUn (t : Tbl) (i : Nat) (hi : i < 6) (u : Int) : (tcells t).set (4 * i + 3) (.int .i64 u) = tcells (t.set i { t.jobs i with un := u }) := by
  match i, hi with
  | 0, _ | 1, _ | 2, _ | 3, _ | 4, _ | 5, _ => rfl
theorem TableAt.setSt {w : World} {b : Nat} {t : Tbl} (h : TableAt w b t) {k : Nat} (hk : k < 6) (hz : t.jobs k = Job.zero) : TableAt (w.setCell ⟨b, k * 4, none⟩ (.int .i64 1)) b (t.set k ⟨1, 0, 0, 0⟩) := by
  unfold TableAt
  rw [← tcells_setSt t k hk hz, Nat.mul_comm k 4]
  exact BlockAt.set h _ _
theorem TableAt.setUn {w : World} {b : Nat} {t : Tbl} (h : TableAt w b t) {k : Nat} (hk : k < 6) (u : Int) : TableAt (w.setCell ⟨b, k * 4 + 3, none⟩ (.int .i64 u)) b (t.set k { t.jobs k with un := u }) := by
  unfold TableAt
  rw [← tcells_setUn t k hk u, Nat.mul_comm k 4]
  exact BlockAt.set h _ _

theorem grown_below {a b c : World} {r : Option Nat} (h : a.grownBy b r) (k : Below b.heap.size b c) : a.grownBy c r :=
  ⟨k.os.trans h.os, k.tape.trans h.tape, k.output.trans h.output, Nat.le_trans h.size k.size, fun i hi hne => (k.block i (Nat.lt_of_lt_of_le hi h.size)).trans (h.block i hi hne)⟩
theorem grown_far {a b c : World} {r : Option Nat} {x : Nat} (h : a.grownBy b r) (k : b.grownBy c (some x)) (hx : a.heap.size ≤ x) : a.grownBy c r :=
  grown_then h k (.inr ⟨x, rfl, hx⟩)
def ocells (o : Ord) : List Value := [.int .i64 o.kind, .int .i64 o.now, .int .i64 o.job, .int .i64 o.tr, .int .i64 o.wk, .int .i64 o.tm]
/-- What is answered, and the table behind it. -/
def AnsPost (w : World) (b : Nat) (x : Tbl × Ans) (e : Ending) (w' : World) : Prop :=
  e = .returned (.agg #[.int .i64 x.2.code, .int .i64 x.2.job, .int .i64 x.2.tr]) ∧ w.grownBy w' (some b) ∧ TableAt w' b x.1
theorem ret_i64 {a b : Int} (h : a = b) : Ending.returned (.int .i64 a) = .returned (.int .i64 b) := by rw [h]
theorem passTo_keep {w : World} {b : Nat} (t : Tbl) (m : Int) (k : Nat) (h : TableAt w b (passTo t m k)) (he : expire m (t.jobs k) = t.jobs k) : TableAt w b (passTo t m (k + 1)) := by
  refine h.congr (fun i _ => ?_) rfl
  simp only [passTo]
  by_cases h1 : i < k
  · simp [h1, Nat.lt_succ_of_lt h1]
  · by_cases h2 : i = k
    · subst h2; simp [he]
    · simp [h1, show ¬ i < k + 1 by omega]
theorem passTo_set {w : World} {b : Nat} (t : Tbl) (m : Int) (k : Nat) (h : TableAt w b ((passTo t m k).set k (expire m (t.jobs k)))) : TableAt w b (passTo t m (k + 1)) := by
  refine h.congr (fun i _ => ?_) rfl
  simp only [passTo, Tbl.set]
  by_cases h1 : i < k
  · simp [h1, Nat.lt_succ_of_lt h1, show ¬ i = k by omega]
  · by_cases h2 : i = k
    · subst h2; simp
    · simp [h1, h2, show ¬ i < k + 1 by omega]
theorem passTo_end {w : World} {b : Nat} (t : Tbl) (n : Int) (h : TableAt w b (passTo t (max t.now n) 6)) : TableAt w b (t.pass n) := by
  refine h.congr (fun i hi => ?_) rfl
  simp [passTo, Tbl.pass, hi]
theorem passTo_start {w : World} {b : Nat} (t : Tbl) (m : Int) (h : TableAt w b t) : TableAt (w.setCell ⟨b, 24, none⟩ (.int .i64 m)) b (passTo t m 0) := by
  refine TableAt.congr (t := ⟨t.jobs, m⟩) (BlockAt.set h 24 _) (fun i _ => ?_) rfl
  simp [passTo]

end Go.Proofs.Ytfihmpkkpgmdhab
