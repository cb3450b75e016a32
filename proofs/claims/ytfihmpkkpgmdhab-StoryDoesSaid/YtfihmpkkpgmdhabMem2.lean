/-
  What stands in memory, more: footprints; rows of bytes; a slice of bytes that one owns.
-/
import Derived.Test.YtfihmpkkpgmdhabMem
namespace Go.Proofs.Ytfihmpkkpgmdhab
open Go.RowKit

/-- Of the blocks that there were only those of F are other. -/
structure Upd (F : Nat → Prop) (w w' : World) : Prop where
  os : w'.os = w.os
  tape : w'.tape = w.tape
  output : w'.output = w.output
  size : w.heap.size ≤ w'.heap.size
  block : ∀ k, k < w.heap.size → ¬ F k → w'.heap[k]? = w.heap[k]?
/-- What F' holds is of F, or new. -/
def From (w : World) (F F' : Nat → Prop) : Prop := ∀ k, F' k → F k ∨ w.heap.size ≤ k
def Sep (F G : Nat → Prop) : Prop := ∀ k, F k → ¬ G k
/-- All of F is there. -/
def In (w : World) (F : Nat → Prop) : Prop := ∀ k, F k → k < w.heap.size

theorem Upd.refl (F : Nat → Prop) (w : World) : Upd F w w := ⟨rfl, rfl, rfl, Nat.le_refl _, fun _ _ _ => rfl⟩
theorem Upd.trans {F G : Nat → Prop} {a b c : World} (h : Upd F a b) (k : Upd G b c) (hs : From a F G) : Upd F a c :=
  ⟨k.os.trans h.os, k.tape.trans h.tape, k.output.trans h.output, Nat.le_trans h.size k.size, fun i hi hf => (k.block i (Nat.lt_of_lt_of_le hi h.size) (fun hg => by
    rcases hs i hg with h1 | h1
    · exact hf h1
    · omega)).trans (h.block i hi hf)⟩
theorem Upd.mono {F G : Nat → Prop} {a b : World} (h : Upd F a b) (hs : ∀ k, F k → G k) : Upd G a b :=
  ⟨h.os, h.tape, h.output, h.size, fun i hi hg => h.block i hi fun hf => hg (hs i hf)⟩
theorem Upd.weak {F G : Nat → Prop} {a b : World} (h : Upd F a b) (hs : From a G F) : Upd G a b :=
  ⟨h.os, h.tape, h.output, h.size, fun i hi hg => h.block i hi fun hf => by
    rcases hs i hf with h1 | h1
    · exact hg h1
    · omega⟩
theorem Upd.of_grown {w w' : World} {r : Option Nat} (h : w.grownBy w' r) : Upd (fun k => r = some k) w w' :=
  ⟨h.os, h.tape, h.output, h.size, fun k hk hf => h.block k hk fun e => hf e.symm⟩
theorem Upd.of_below {w w' : World} (h : Below w.heap.size w w') (F : Nat → Prop) : Upd F w w' :=
  ⟨h.os, h.tape, h.output, h.size, fun k hk _ => h.block k hk⟩
theorem Upd.below {F : Nat → Prop} {B : Nat} {w w' : World} (h : Upd F w w') (hB : B ≤ w.heap.size) (hF : ∀ k, F k → B ≤ k) : Below B w w' :=
  ⟨h.os, h.tape, h.output, h.size, fun k hk => h.block k (Nat.lt_of_lt_of_le hk hB) fun hf => by have := hF k hf; omega⟩
theorem Upd.alloc {F : Nat → Prop} {a w : World} (h : Upd F a w) (o : Obj) : Upd F a (w.alloc o) :=
  ⟨h.os, h.tape, h.output, Nat.le_trans h.size (by simp), fun i hi hne => (Below.heap_alloc w o i (Nat.lt_of_lt_of_le hi h.size)).trans (h.block i hi hne)⟩
theorem Upd.setCell {F : Nat → Prop} {a w : World} (h : Upd F a w) {p : Addr} (hp : F p.block ∨ a.heap.size ≤ p.block) (u : Value) : Upd F a (w.setCell p u) :=
  ⟨h.os, h.tape, h.output, by simpa [World.setCell] using h.size, fun i hi hne => (Below.heap_setCell w p u i (by
    rintro rfl
    rcases hp with hp | hp
    · exact hne hp
    · omega)).trans (h.block i hi hne)⟩
theorem Upd.drewN {F : Nat → Prop} {a w : World} (h : Upd F a w) (n : Nat) : Upd F a (w.drewN n) := ⟨h.os, h.tape, h.output, h.size, h.block⟩
theorem Upd.drew {F : Nat → Prop} {a w : World} (h : Upd F a w) : Upd F a w.drew := ⟨h.os, h.tape, h.output, h.size, h.block⟩
theorem BlockAt.upd {F : Nat → Prop} {w w' : World} {b : Nat} {ty : TypeId} {cs : List Value} (h : BlockAt w b ty cs) (hu : Upd F w w') (hf : ¬ F b) : BlockAt w' b ty cs := by
  have hb := hu.block b h.lt hf
  unfold BlockAt at *
  rw [hb]; exact h
theorem From.refl (w : World) (F : Nat → Prop) : From w F F := fun _ h => .inl h
theorem From.trans {a b : World} {F G H : Nat → Prop} (h : From a F G) (k : From b G H) (hs : a.heap.size ≤ b.heap.size) : From a F H := fun i hi => by
  rcases k i hi with h1 | h1
  · exact h i h1
  · exact .inr (by omega)
theorem Sep.step {w : World} {F F' G : Nat → Prop} (h : Sep F G) (hs : From w F F') (hG : In w G) : Sep F' G := fun k hk hg => by
  rcases hs k hk with h1 | h1
  · exact h k h1 hg
  · have := hG k hg; omega
theorem Sep.symm {F G : Nat → Prop} (h : Sep F G) : Sep G F := fun k hg hf => h k hf hg
theorem From.ge {w : World} {F F' : Nat → Prop} {B : Nat} (h : From w F F') (hB : B ≤ w.heap.size) (hF : ∀ k, F k → B ≤ k) : ∀ k, F' k → B ≤ k := fun k hk => by
  rcases h k hk with h1 | h1
  · exact hF k h1
  · omega
theorem In.mono {w w' : World} {F : Nat → Prop} (h : In w F) (hs : w.heap.size ≤ w'.heap.size) : In w' F := fun k hk => Nat.lt_of_lt_of_le (h k hk) hs

/-- A byte in its cell. -/
def bv (x : UInt8) : Value := .int .u8 x.toNat
def bvs (l : List UInt8) : List Value := l.map bv
@[simp] theorem bvs_length (l : List UInt8) : (bvs l).length = l.length := by simp [bvs]
theorem bvs_append (l m : List UInt8) : bvs (l ++ m) = bvs l ++ bvs m := by simp [bvs]
theorem bvs_ones (l : List UInt8) : ∀ u ∈ bvs l, u.oneCell' = true := by
  intro u hu
  simp only [bvs, List.mem_map] at hu
  obtain ⟨x, _, rfl⟩ := hu
  rfl

/-- A slice of bytes that reads as l. -/
def BytesAt (w : World) (v : Value) (l : List UInt8) : Prop :=
  ∃ a c, v = .slice a l.length c ∧ l.length ≤ c ∧ c ≤ maxLen ∧ (a = none → c = 0) ∧
    (l ≠ [] → ∃ g off, a = some ⟨g, off, none⟩ ∧ ∀ j u, (bvs l)[j]? = some u → w.cell? ⟨g, off + j, none⟩ = some u)
/-- Its block. -/
def OwnB (w : World) (v : Value) (l : List UInt8) : Prop :=
  (v = .slice none 0 0 ∧ l = []) ∨
  ∃ g cap cur, v = .slice (some ⟨g, 0, none⟩) l.length cap ∧ BlockAt w g 5 cur ∧ l.length ≤ cap ∧ cap ≤ cur.length ∧ cap ≤ maxLen ∧ cur.take l.length = bvs l

theorem OwnB.nil (w : World) : OwnB w (.slice none 0 0) [] := .inl ⟨rfl, rfl⟩
theorem OwnB.bytes {w : World} {v : Value} {l : List UInt8} (h : OwnB w v l) : BytesAt w v l := by
  rcases h with ⟨rfl, rfl⟩ | ⟨g, cap, cur, rfl, hb, h1, h2, h3, h4⟩
  · exact ⟨none, 0, rfl, Nat.le_refl _, Nat.zero_le _, fun _ => rfl, fun h => absurd rfl h⟩
  · refine ⟨_, cap, rfl, h1, h3, by simp, fun _ => ⟨g, 0, rfl, fun j u hu => ?_⟩⟩
    rw [Nat.zero_add]
    refine hb.cell j u ?_
    rw [← h4, List.getElem?_take] at hu
    split at hu
    · exact hu
    · cases hu
theorem OwnB.lt {w : World} {v : Value} {l : List UInt8} (h : OwnB w v l) {k : Nat} (hk : v.ownBlock = some k) : k < w.heap.size := by
  rcases h with ⟨rfl, rfl⟩ | ⟨g, cap, cur, rfl, hb, _⟩
  · simp [Value.ownBlock] at hk
  · simp [Value.ownBlock] at hk
    subst hk
    exact hb.lt
theorem OwnB.upd {F : Nat → Prop} {w w' : World} {v : Value} {l : List UInt8} (h : OwnB w v l) (hu : Upd F w w') (hf : ∀ k, v.ownBlock = some k → ¬ F k) : OwnB w' v l := by
  rcases h with h | ⟨g, cap, cur, rfl, hb, h1⟩
  · exact .inl h
  · exact .inr ⟨g, cap, cur, rfl, hb.upd hu (hf g rfl), h1⟩
theorem BytesAt.upd {F : Nat → Prop} {w w' : World} {v : Value} {l : List UInt8} (h : BytesAt w v l) (hu : Upd F w w') (hf : ∀ k, v.ownBlock = some k → ¬ F k) : BytesAt w' v l := by
  obtain ⟨a, c, rfl, h1, h2, h3, h4⟩ := h
  refine ⟨a, c, rfl, h1, h2, h3, fun hl => ?_⟩
  obtain ⟨g, off, rfl, h5⟩ := h4 hl
  refine ⟨g, off, rfl, fun j u hj => ?_⟩
  have hc := h5 j u hj
  rw [World.cell?_of_block (hu.block g (block_lt_of_cell hc) (hf g rfl))]
  exact hc
theorem BytesAt.len {w : World} {v : Value} {l : List UInt8} (h : BytesAt w v l) : l.length ≤ maxLen := by
  obtain ⟨_, _, _, h1, h2, _⟩ := h
  omega
/-- Cut to the first n, the capacity too. -/
theorem OwnB.cut {w : World} {g len cap : Nat} {l : List UInt8} (h : OwnB w (.slice (some ⟨g, 0, none⟩) len cap) l) {n : Nat} (hn : n ≤ l.length) : OwnB w (.slice (some ⟨g, 0, none⟩) n n) (l.take n) := by
  rcases h with ⟨h, _⟩ | ⟨g', cap', cur, h, hb, h1, h2, h3, h4⟩
  · simp at h
  · simp only [Value.slice.injEq, Option.some.injEq, Addr.mk.injEq, and_true] at h
    obtain ⟨rfl, _, rfl⟩ := h
    have e : (l.take n).length = n := by simp; omega
    refine .inr ⟨g, n, cur, by rw [e], hb, by omega, by omega, by omega, ?_⟩
    rw [e]
    have h5 : (cur.take l.length).take n = (bvs l).take n := by rw [h4]
    rw [List.take_take, Nat.min_eq_left hn] at h5
    rw [h5]
    simp [bvs]

theorem laid_three (w : World) (t : TypeId) (a b : List Value) (Z : Array Value) : BlockAt (w.alloc (.cells (a.toArray ++ b.toArray ++ Z) t)) w.heap.size t (a ++ b ++ Z.toList) := by
  obtain ⟨Z⟩ := Z
  have := BlockAt.new w t (a ++ b ++ Z)
  simpa using this
section
variable {P : Program}
/-- append of bytes to bytes that one owns. -/
theorem run_append_bytes {w : World} (t ty e : TypeId) (i : TypeInfo) (ht : P.underlying t = some (.slice e)) (hi : P.info? e = some i) (hz : i.zero = some (.int .u8 0)) (hsz : i.size = 1) (hby : i.bytes = 1) (he : e = 5)
    {v y : Value} {l m : List UInt8} (hv : OwnB w v l) (hy : BytesAt w y m) (hlen : l.length + m.length ≤ 140737488355328) :
    ∃ v' w', (Builtin.append_ #[t, t] ty #[v, y]).run P w = .ok v' w' ∧ OwnB w' v' (l ++ m) ∧ Upd (fun k => v.ownBlock = some k) w w' ∧ (∀ k, v'.ownBlock = some k → v.ownBlock = some k ∨ w.heap.size ≤ k) := by
  subst he
  have hml : maxLen = 9223372036854775807 := rfl
  obtain ⟨ya, yc, rfl, y1, y2, y3, y4⟩ := hy
  by_cases hm : m = []
  · subst hm
    refine ⟨v, w, ?_, by simpa using hv, Upd.refl _ _, fun k hk => .inl hk⟩
    rcases hv with ⟨rfl, rfl⟩ | ⟨g, cap, cur, rfl, hb, h1, h2, h3, h4⟩
    · cases ya <;> simp [Builtin.append_, run_underlying ht, sizeOf, typeInfo, hi, Builtin.lenOf, Builtin.firstCells, loadCells, loadCellsFrom]
    · cases ya <;> simp [Builtin.append_, run_underlying ht, sizeOf, typeInfo, hi, Builtin.lenOf, Builtin.firstCells, loadCells, loadCellsFrom, h1, storeCells]
  · obtain ⟨yg, yo, rfl, y5⟩ := y4 hm
    have hnews : ∀ j u, (bvs m)[j]? = some u → w.cell? ((⟨yg, yo, none⟩ : Addr).add j) = some u := fun j u hj => by
      rw [Addr.add_lit]; exact y5 j u hj
    have hm0 : 0 < m.length := List.length_pos_iff.2 hm
    have grown : ∀ old, old < l.length + m.length →
        OwnB (w.drew.alloc (.cells ((bvs l).toArray ++ (bvs m).toArray ++ Builtin.zeroCells (Value.cells (.int .u8 0)) (grownCap w (l.length + m.length) old 5 - (l.length + m.length))) 5))
          (.slice (some ⟨w.heap.size, 0, none⟩) (l.length + m.length) (grownCap w (l.length + m.length) old 5)) (l ++ m) := fun old _ => by
      have hge := grownCap_ge w (l.length + m.length) old 5
      have hcm := grownCap_le_maxLen w (l.length + m.length) old 5 (by omega)
      refine .inr ⟨w.heap.size, _, bvs l ++ bvs m ++ (Builtin.zeroCells (Value.cells (.int .u8 0)) (grownCap w (l.length + m.length) old 5 - (l.length + m.length))).toList, by simp, ?_, by simpa using hge, ?_, hcm, ?_⟩
      · exact laid_three w.drew 5 _ _ _
      · simp only [List.length_append, bvs_length, Array.length_toList, size_zeroCells]
        simp [Value.cells]; omega
      · rw [bvs_append, List.take_append_of_le_length (by simp)]
        exact List.take_of_length_le (by simp)
    rcases hv with ⟨rfl, rfl⟩ | ⟨g, cap, cur, rfl, hb, h1, h2, h3, h4⟩
    · have hr := run_append_nil (P := P) w t ty 5 i (.int .u8 0) ht hi hz ⟨yg, yo, none⟩ m.length yc (bvs m) (by simp [hsz]) hnews hm0 (by omega) (by rw [hby]; omega)
      have hg := grown 0 (by omega)
      simp only [List.length_nil, Nat.zero_add] at hg hr
      refine ⟨_, _, hr, by simpa [bvs] using hg, ?_, fun k hk => .inr ?_⟩
      · exact (Upd.drew (Upd.refl _ w)).alloc _
      · simp [Value.ownBlock] at hk; omega
    · by_cases hroom : l.length + m.length ≤ cap
      · have hr := run_append_room (P := P) w t ty 5 i ht hi g l.length cap cur.toArray hb ⟨yg, yo, none⟩ m.length yc (bvs m) (by simp [hsz]) hnews (bvs_ones m) hroom (by simp [hsz]; omega)
        refine ⟨_, _, hr, .inr ⟨g, cap, (bvs l ++ bvs m ++ cur.drop (l.length + m.length)), by simp, ?_, by simpa using hroom, ?_, h3, ?_⟩, ?_, fun k hk => .inl hk⟩
        · have := hb.setRow (cur.take l.length ++ bvs m ++ cur.drop (l.length + m.length))
          rw [h4] at this
          simpa [hsz, h4] using this
        · simp; omega
        · rw [bvs_append, List.take_append_of_le_length (by simp)]
          exact List.take_of_length_le (by simp)
        · exact Upd.of_grown (grown_setRow (grown_refl w _) _)
      · have holds : ∀ j u, (bvs l)[j]? = some u → w.cell? ((⟨g, 0, none⟩ : Addr).add j) = some u := fun j u hu => by
          rw [Addr.add_lit, Nat.zero_add]
          refine hb.cell j u ?_
          rw [← h4, List.getElem?_take] at hu
          split at hu
          · exact hu
          · cases hu
        have hr := run_append_grow (P := P) w t ty 5 i (.int .u8 0) ht hi hz ⟨g, 0, none⟩ l.length cap (bvs l) (by simp [hsz]) holds ⟨yg, yo, none⟩ m.length yc (bvs m) (by simp [hsz]) hnews (by omega) (by omega) (by rw [hby]; exact growslice_fits (by omega) (by omega))
        refine ⟨_, _, hr, grown cap (by omega), ?_, fun k hk => .inr ?_⟩
        · exact (Upd.drew (Upd.refl _ w)).alloc _
        · simp [Value.ownBlock] at hk; omega
theorem wpList_append_bytes {w : World} {ops : Array Oper} {rest : List Oper} {o : Oper} {a : Act} {Q : Exit → Act → World → Prop} (hgd : o.guard = none) (s x : Operand) (t : TypeId)
    (ho : o.op = .call { callee := .builtin .append, args := #[s, x], argTypes := #[t, t] })
    (e : TypeId) (i : TypeInfo) (ht : P.underlying t = some (.slice e)) (hi : P.info? e = some i) (hz : i.zero = some (.int .u8 0)) (hsz : i.size = 1) (hby : i.bytes = 1) (he : e = 5)
    {v y : Value} {l m : List UInt8} (hs : a.eval s = v) (hx : a.eval x = y) (hv : OwnB w v l) (hy : BytesAt w y m) (hlen : l.length + m.length ≤ 140737488355328)
    (h : ∀ v' w', OwnB w' v' (l ++ m) → Upd (fun k => v.ownBlock = some k) w w' → (∀ k, v'.ownBlock = some k → v.ownBlock = some k ∨ w.heap.size ≤ k) → wpList P ops Q rest (a.put o.dst v') w') : wpList P ops Q (o :: rest) a w :=
  wpList_plain hgd fun _ hK => by
    obtain ⟨v', w', hr, h2, h3, h4⟩ := run_append_bytes (P := P) t o.type e i ht hi hz hsz hby he hv hy hlen
    unfold Oper.wp execOp
    simp only [ho, resolve, invoke, builtin, Sem.run_bind, Sem.run_pure, Result.andThen_ok, List.map_toArray, List.map_cons, List.map_nil, hs, hx, hr]
    exact hK _ _ (h v' w' h2 h3 h4)
end
end Go.Proofs.Ytfihmpkkpgmdhab
