/-
  Slices of any element: read, or owned; append.
-/
import Derived.Test.YtfihmpkkpgmdhabSep
namespace Go.Proofs.Ytfihmpkkpgmdhab
set_option linter.unusedSimpArgs false
set_option linter.unusedVariables false
open Go.RowKit

/-- A slice of n elements that reads as these cells. -/
def RowAt (w : World) (v : Value) (n : Nat) (cs : List Value) : Prop :=
  ∃ a c, v = .slice a n c ∧ n ≤ c ∧ c ≤ maxLen ∧ (a = none → c = 0) ∧ (n ≠ 0 → ∃ g off, a = some ⟨g, off, none⟩ ∧ ∀ j u, cs[j]? = some u → w.cell? ⟨g, off + j, none⟩ = some u)
/-- One that is owned: its block. -/
def OwnRow (w : World) (e : TypeId) (size : Nat) (v : Value) (n : Nat) (xs : List Value) : Prop :=
  xs.length = n * size ∧ Ones xs ∧ ((v = .slice none 0 0 ∧ n = 0) ∨
    ∃ g cap cur, v = .slice (some ⟨g, 0, none⟩) n cap ∧ BlockAt w g e cur ∧ n ≤ cap ∧ cap * size ≤ cur.length ∧ cap ≤ maxLen ∧ cur.take (n * size) = xs)
theorem RowAt.upd {F : Nat → Prop} {w w' : World} {v : Value} {n : Nat} {cs : List Value} (h : RowAt w v n cs) (hu : Upd F w w') (hf : ∀ k, v.ownBlock = some k → ¬ F k) (hc : cs.length ≠ 0 → n ≠ 0) : RowAt w' v n cs := by
  obtain ⟨a, c, rfl, h1, h2, h3, h4⟩ := h
  refine ⟨a, c, rfl, h1, h2, h3, fun hl => ?_⟩
  obtain ⟨g, off, rfl, h5⟩ := h4 hl
  refine ⟨g, off, rfl, fun j u hj => ?_⟩
  have hcc := h5 j u hj
  rw [World.cell?_of_block (hu.block g (block_lt_of_cell hcc) (hf g rfl))]
  exact hcc
/-- Nothing that stood is other. -/
theorem RowAt.to {w w' : World} {v : Value} {n : Nat} {cs : List Value} (h : RowAt w v n cs) (hb : ∀ k, k < w.heap.size → w'.heap[k]? = w.heap[k]?) : RowAt w' v n cs := by
  obtain ⟨a, c, rfl, h1, h2, h3, h4⟩ := h
  refine ⟨a, c, rfl, h1, h2, h3, fun hl => ?_⟩
  obtain ⟨g, off, rfl, h5⟩ := h4 hl
  refine ⟨g, off, rfl, fun j u hj => ?_⟩
  have hcc := h5 j u hj
  rw [World.cell?_of_block (hb g (block_lt_of_cell hcc))]
  exact hcc
theorem RowAt.below {w w' : World} {v : Value} {n : Nat} {cs : List Value} (h : RowAt w v n cs) (hb : Below w.heap.size w w') : RowAt w' v n cs := h.to hb.block
theorem RowAt.drew {w : World} {v : Value} {n : Nat} {cs : List Value} (h : RowAt w v n cs) : RowAt w.drew v n cs := h
theorem RowAt.alloc {w : World} {v : Value} {n : Nat} {cs : List Value} (h : RowAt w v n cs) (o : Obj) : RowAt (w.alloc o) v n cs := h.to fun k hk => Below.heap_alloc w o k hk
/-- What there was at w0, with all that is there still. -/
theorem RowAt.old {w0 w : World} {v : Value} {n : Nat} {cs : List Value} {A : HP} (h : RowAt w0 v n cs) (hh : Holds w (A * old w0)) : RowAt w v n cs := by
  obtain ⟨F, h1, rfl⟩ := hh.right
  exact h.to h1
theorem RowAt.shape {w : World} {v : Value} {n : Nat} {cs : List Value} (h : RowAt w v n cs) : ∃ a c, v = .slice a n c ∧ n ≤ c ∧ c ≤ 9223372036854775807 := by
  obtain ⟨a, c, rfl, h1, h2, _⟩ := h
  exact ⟨a, c, rfl, h1, by unfold maxLen at h2; omega⟩
/-- What a read of it wants. -/
theorem RowAt.get {w : World} {v : Value} {n : Nat} {cs : List Value} (h : RowAt w v n cs) (h0 : n ≠ 0) : ∃ g off c, v = .slice (some ⟨g, off, none⟩) n c ∧ n ≤ c ∧ c ≤ 9223372036854775807 ∧ ∀ j u, cs[j]? = some u → w.cell? ⟨g, off + j, none⟩ = some u := by
  obtain ⟨a, c, rfl, h1, h2, _, h4⟩ := h
  obtain ⟨g, off, rfl, h5⟩ := h4 h0
  exact ⟨g, off, c, rfl, h1, by unfold maxLen at h2; omega, h5⟩
theorem RowAt.bytes {w : World} {v : Value} {l : List UInt8} (h : RowAt w v l.length (bvs l)) : BytesAt w v l := by
  obtain ⟨a, c, rfl, h1, h2, h3, h4⟩ := h
  exact ⟨a, c, rfl, h1, h2, h3, fun hl => h4 (by intro e; exact hl (List.length_eq_zero_iff.1 e))⟩
theorem BytesAt.row {w : World} {v : Value} {l : List UInt8} (h : BytesAt w v l) : RowAt w v l.length (bvs l) := by
  obtain ⟨a, c, rfl, h1, h2, h3, h4⟩ := h
  exact ⟨a, c, rfl, h1, h2, h3, fun hl => h4 (by rintro rfl; exact hl rfl)⟩
theorem BytesAt.to {w w' : World} {v : Value} {l : List UInt8} (h : BytesAt w v l) (hb : ∀ k, k < w.heap.size → w'.heap[k]? = w.heap[k]?) : BytesAt w' v l := (h.row.to hb).bytes
theorem BytesAt.old {w0 w : World} {v : Value} {l : List UInt8} {A : HP} (h : BytesAt w0 v l) (hh : Holds w (A * Go.Proofs.Ytfihmpkkpgmdhab.old w0)) : BytesAt w v l := (h.row.old hh).bytes

theorem OwnRow.nil (w : World) (e : TypeId) (size : Nat) : OwnRow w e size (.slice none 0 0) 0 [] := ⟨by simp, (fun _ h => by cases h), .inl ⟨rfl, rfl⟩⟩
theorem OwnRow.row {w : World} {e : TypeId} {size : Nat} {v : Value} {n : Nat} {xs : List Value} (h : OwnRow w e size v n xs) : RowAt w v n xs := by
  obtain ⟨h0, ho, ⟨rfl, rfl⟩ | ⟨g, cap, cur, rfl, hb, h1, h2, h3, h4⟩⟩ := h
  · exact ⟨none, 0, rfl, Nat.le_refl _, Nat.zero_le _, fun _ => rfl, fun h => absurd rfl h⟩
  · refine ⟨_, cap, rfl, h1, h3, (fun e => by cases e), fun _ => ⟨g, 0, rfl, fun j u hu => ?_⟩⟩
    rw [Nat.zero_add]
    refine hb.cell j u ?_
    rw [← h4, List.getElem?_take] at hu
    split at hu
    · exact hu
    · cases hu
theorem OwnRow.lt {w : World} {e : TypeId} {size : Nat} {v : Value} {n : Nat} {xs : List Value} (h : OwnRow w e size v n xs) {k : Nat} (hk : v.ownBlock = some k) : k < w.heap.size := by
  obtain ⟨_, _, ⟨rfl, _⟩ | ⟨g, cap, cur, rfl, hb, _⟩⟩ := h
  · simp [Value.ownBlock] at hk
  · simp [Value.ownBlock] at hk
    subst hk
    exact hb.lt
theorem OwnRow.bytes {w : World} {v : Value} {l : List UInt8} (h : OwnRow w 5 1 v l.length (bvs l)) : OwnB w v l := by
  obtain ⟨h0, ho, ⟨rfl, h⟩ | ⟨g, cap, cur, rfl, hb, h1, h2, h3, h4⟩⟩ := h
  · exact .inl ⟨rfl, List.length_eq_zero_iff.1 h⟩
  · exact .inr ⟨g, cap, cur, rfl, hb, h1, by omega, h3, by simpa using h4⟩
theorem OwnB.row {w : World} {v : Value} {l : List UInt8} (h : OwnB w v l) : OwnRow w 5 1 v l.length (bvs l) := by
  rcases h with ⟨rfl, rfl⟩ | ⟨g, cap, cur, rfl, hb, h1, h2, h3, h4⟩
  · exact OwnRow.nil _ _ _
  · exact ⟨by simp, bvs_ones l, .inr ⟨g, cap, cur, rfl, hb, h1, by omega, h3, by simpa using h4⟩⟩
theorem OwnRow.new (w : World) (e : TypeId) (size n : Nat) (cs : List Value) (h : cs.length = n * size) (h1 : Ones cs) (hn : n ≤ 1000000) : OwnRow (w.alloc (.cells cs.toArray e)) e size (.slice (some ⟨w.heap.size, 0, none⟩) n n) n cs :=
  ⟨h, h1, .inr ⟨_, n, cs, rfl, BlockAt.new w e _, Nat.le_refl _, by omega, by unfold maxLen; omega, List.take_of_length_le (by omega)⟩⟩

/-- A slice that is owned. -/
def rw_ (e : TypeId) (size : Nat) (v : Value) (n : Nat) (xs : List Value) : HP where
  on F w := OwnRow w e size v n xs ∧ F = fun k => v.ownBlock = some k
  lt := by rintro F w ⟨h, rfl⟩ k hk; exact h.lt hk
  keep := by
    rintro F w w' ⟨h, rfl⟩ hk
    refine ⟨?_, rfl⟩
    obtain ⟨h0, ho, h | ⟨g, cap, cur, rfl, hb, hr⟩⟩ := h
    · exact ⟨h0, ho, .inl h⟩
    · exact ⟨h0, ho, .inr ⟨g, cap, cur, rfl, by unfold BlockAt at *; rw [hk g rfl]; exact hb, hr⟩⟩
theorem Holds.own {w : World} {e : TypeId} {size : Nat} {v : Value} {n : Nat} {xs : List Value} {A : HP} (h : Holds w (rw_ e size v n xs * A)) : OwnRow w e size v n xs := by
  obtain ⟨F, h, _⟩ := h.left
  exact h
theorem Holds.row {w : World} {e : TypeId} {size : Nat} {v : Value} {n : Nat} {xs : List Value} {A : HP} (h : Holds w (rw_ e size v n xs * A)) : RowAt w v n xs := h.own.row
theorem Holds.nilRow {w : World} {A : HP} (h : Holds w A) (e : TypeId) (size : Nat) : Holds w (rw_ e size (.slice none 0 0) 0 [] * A) :=
  h.new (fun _ _ => rfl) ⟨OwnRow.nil _ _ _, rfl⟩ (by intro k hk; simp [Value.ownBlock] at hk)
theorem Holds.allocRow {w : World} {A : HP} (h : Holds w A) (e : TypeId) (size n : Nat) (cs : List Value) (hl : cs.length = n * size) (h1 : Ones cs) (hn : n ≤ 1000000) : Holds (w.alloc (.cells cs.toArray e)) (rw_ e size (.slice (some ⟨w.heap.size, 0, none⟩) n n) n cs * A) :=
  h.new (fun k hk => Below.heap_alloc w _ k hk) ⟨OwnRow.new w e size n cs hl h1 hn, rfl⟩ (by intro k hk; simp [Value.ownBlock] at hk; omega)
theorem ownb_row (v : Value) (l : List UInt8) : ownb v l = rw_ 5 1 v l.length (bvs l) := HP.ext' fun F w => ⟨fun ⟨h, e⟩ => ⟨h.row, e⟩, fun ⟨h, e⟩ => ⟨h.bytes, e⟩⟩

/-- A box that has just been made, at the number that the walk writes. -/
theorem RowAt.box {w : World} {e : TypeId} {n : Nat} {cs : List Value} (hn : n ≤ 1000000) {g : Nat} (hg : w.heap.size = g) : RowAt (w.alloc (.cells cs.toArray e)) (.slice (some ⟨g, 0, none⟩) n n) n cs := by
  subst hg
  exact ⟨_, n, rfl, Nat.le_refl _, by unfold maxLen; omega, (fun e => by cases e), fun _ => ⟨_, _, rfl, fun j u hu => by rw [Nat.zero_add]; exact (BlockAt.new w e cs).cell j u hu⟩⟩
theorem Holds.boxB {w : World} {A : HP} (h : Holds w A) {ty : TypeId} {cs : List Value} {g : Nat} (hg : w.heap.size = g) : Holds (w.alloc (.cells cs.toArray ty)) (Go.Proofs.Ytfihmpkkpgmdhab.bl g ty cs * A) := by
  subst hg
  exact h.allocB ty cs
theorem Holds.boxRow {w : World} {A : HP} (h : Holds w A) {e : TypeId} (size : Nat) {n : Nat} {cs : List Value} (hl : cs.length = n * size) (h1 : Ones cs) (hn : n ≤ 1000000) {g : Nat} (hg : w.heap.size = g) : Holds (w.alloc (.cells cs.toArray e)) (rw_ e size (.slice (some ⟨g, 0, none⟩) n n) n cs * A) := by
  subst hg
  exact h.allocRow e size n cs hl h1 hn
section
variable {P : Program}
theorem run_append_row {w : World} (t ty e : TypeId) (i : TypeInfo) (z : Value) (size bytes : Nat) (ht : P.underlying t = some (.slice e)) (hi : P.info? e = some i) (hz : i.zero = some z) (hsz : i.size = size) (hby : i.bytes = bytes) (hzs : z.cells.size = size) (hs0 : 0 < size)
    {v y : Value} {n m : Nat} {xs ys : List Value} (hv : OwnRow w e size v n xs) (hy : RowAt w y m ys) (hyl : ys.length = m * size) (hy1 : Ones ys) (hlen : (n + m) * bytes ≤ 140737488355328) (hnm : n + m ≤ 140737488355328) :
    ∃ v' w', (Builtin.append_ #[t, t] ty #[v, y]).run P w = .ok v' w' ∧ OwnRow w' e size v' (n + m) (xs ++ ys) ∧ Upd (fun k => v.ownBlock = some k) w w' ∧ (∀ k, v'.ownBlock = some k → v.ownBlock = some k ∨ w.heap.size ≤ k) := by
  subst hsz
  subst hby
  have hml : maxLen = 9223372036854775807 := rfl
  obtain ⟨ya, yc, rfl, y1, y2, y3, y4⟩ := hy
  obtain ⟨hxl, hx1, hv⟩ := hv
  by_cases hm : m = 0
  · subst hm
    have hye : ys = [] := List.length_eq_zero_iff.1 (by simpa using hyl)
    subst hye
    refine ⟨v, w, ?_, by rw [Nat.add_zero, List.append_nil]; exact ⟨hxl, hx1, hv⟩, Upd.refl _ _, fun k hk => .inl hk⟩
    rcases hv with ⟨rfl, rfl⟩ | ⟨g, cap, cur, rfl, hb, h1, h2, h3, h4⟩
    · cases ya <;> simp [Builtin.append_, run_underlying ht, sizeOf, typeInfo, hi, Builtin.lenOf, Builtin.firstCells, loadCells, loadCellsFrom]
    · cases ya <;> simp [Builtin.append_, run_underlying ht, sizeOf, typeInfo, hi, Builtin.lenOf, Builtin.firstCells, loadCells, loadCellsFrom, h1, storeCells]
  · obtain ⟨yg, yo, rfl, y5⟩ := y4 hm
    have hnews : ∀ j u, ys[j]? = some u → w.cell? ((⟨yg, yo, none⟩ : Addr).add j) = some u := fun j u hj => by
      rw [Addr.add_lit]; exact y5 j u hj
    have hm0 : 0 < m := Nat.pos_of_ne_zero hm
    have hones : Ones (xs ++ ys) := fun u hu => (List.mem_append.1 hu).elim (hx1 u) (hy1 u)
    have hsum : (xs ++ ys).length = (n + m) * i.size := by rw [List.length_append, hxl, hyl, Nat.add_mul]
    have grown : ∀ old, old < n + m →
        OwnRow (w.drew.alloc (.cells (xs.toArray ++ ys.toArray ++ Builtin.zeroCells (Value.cells z) (grownCap w (n + m) old e - (n + m))) e)) e i.size
          (.slice (some ⟨w.heap.size, 0, none⟩) (n + m) (grownCap w (n + m) old e)) (n + m) (xs ++ ys) := fun old _ => by
      have hge := grownCap_ge w (n + m) old e
      have hcm := grownCap_le_maxLen w (n + m) old e (by omega)
      refine ⟨hsum, hones, .inr ⟨w.heap.size, _, xs ++ ys ++ (Builtin.zeroCells (Value.cells z) (grownCap w (n + m) old e - (n + m))).toList, rfl, ?_, by simpa using hge, ?_, hcm, ?_⟩⟩
      · exact laid_three w.drew e _ _ _
      · rw [List.length_append, hsum, Array.length_toList, size_zeroCells, hzs, ← Nat.add_mul]
        exact Nat.mul_le_mul_right _ (by omega)
      · rw [List.take_append_of_le_length (by omega)]
        exact List.take_of_length_le (by omega)
    rcases hv with ⟨rfl, rfl⟩ | ⟨g, cap, cur, rfl, hb, h1, h2, h3, h4⟩
    · have hxe : xs = [] := List.length_eq_zero_iff.1 (by simpa using hxl)
      subst hxe
      have hr := run_append_nil (P := P) w t ty e i z ht hi hz ⟨yg, yo, none⟩ m yc ys (by omega) hnews hm0 (by omega) (by rw [Nat.zero_add] at hlen; omega)
      have hg := grown 0 (by omega)
      simp only [Nat.zero_add, List.nil_append] at hg hr ⊢
      refine ⟨_, _, hr, by simpa using hg, ?_, fun k hk => .inr ?_⟩
      · exact (Upd.drew (Upd.refl _ w)).alloc _
      · simp [Value.ownBlock] at hk; omega
    · by_cases hroom : n + m ≤ cap
      · have hcs : (n + m) * i.size ≤ cur.length := Nat.le_trans (Nat.mul_le_mul_right _ hroom) h2
        have hr := run_append_room (P := P) w t ty e i ht hi g n cap cur.toArray hb ⟨yg, yo, none⟩ m yc ys (by omega) hnews hy1 hroom (by rw [List.size_toArray, hyl, ← Nat.add_mul]; exact hcs)
        refine ⟨_, _, hr, ⟨hsum, hones, .inr ⟨g, cap, (xs ++ ys ++ cur.drop ((n + m) * i.size)), rfl, ?_, hroom, ?_, h3, ?_⟩⟩, ?_, fun k hk => .inl hk⟩
        · have := hb.setRow (cur.take (n * i.size) ++ ys ++ cur.drop ((n + m) * i.size))
          rw [h4] at this
          have he : n * i.size + m * i.size = (n + m) * i.size := (Nat.add_mul _ _ _).symm
          simpa [h4, hyl, he] using this
        · rw [List.length_append, hsum, List.length_drop]; omega
        · rw [List.take_append_of_le_length (by omega)]
          exact List.take_of_length_le (by omega)
        · exact (Upd.of_grown (grown_setRow (grown_refl w _) _)).mono fun k hk => hk
      · have holds : ∀ j u, xs[j]? = some u → w.cell? ((⟨g, 0, none⟩ : Addr).add j) = some u := fun j u hu => by
          rw [Addr.add_lit, Nat.zero_add]
          refine hb.cell j u ?_
          rw [← h4, List.getElem?_take] at hu
          split at hu
          · exact hu
          · cases hu
        have hr := run_append_grow (P := P) w t ty e i z ht hi hz ⟨g, 0, none⟩ n cap xs (by omega) holds ⟨yg, yo, none⟩ m yc ys (by omega) hnews (by omega) (by omega) (growslice_fits (by omega) (by omega))
        refine ⟨_, _, hr, grown cap (by omega), ?_, fun k hk => .inr ?_⟩
        · exact (Upd.drew (Upd.refl _ w)).alloc _
        · simp [Value.ownBlock] at hk; omega
/-- append to what is owned. -/
theorem wpList_append_sl {w : World} {ops : Array Oper} {rest : List Oper} {o : Oper} {a : Act} {Q : Exit → Act → World → Prop} (hgd : o.guard = none) (s x : Operand) (t : TypeId)
    (ho : o.op = .call { callee := .builtin .append, args := #[s, x], argTypes := #[t, t] })
    (e : TypeId) (i : TypeInfo) (z : Value) (size bytes : Nat) (ht : P.underlying t = some (.slice e)) (hi : P.info? e = some i) (hz : i.zero = some z) (hsz : i.size = size) (hby : i.bytes = bytes) (hzs : z.cells.size = size) (hs0 : 0 < size)
    {v y : Value} {n m : Nat} {xs ys : List Value} {R : HP} (hs : a.eval s = v) (hx : a.eval x = y) (hv : Holds w (rw_ e size v n xs * R)) (hy : RowAt w y m ys) (hyl : ys.length = m * size) (hy1 : Ones ys) (hlen : (n + m) * bytes ≤ 140737488355328) (hnm : n + m ≤ 140737488355328)
    (h : ∀ v' w', Holds w' (rw_ e size v' (n + m) (xs ++ ys) * R) → Quiet w w' → wpList P ops Q rest (a.put o.dst v') w') : wpList P ops Q (o :: rest) a w :=
  wpList_plain hgd fun _ hK => by
    obtain ⟨F, ⟨hown, rfl⟩, hn⟩ := hv.open
    obtain ⟨v', w', hr, h2, h3, h4⟩ := run_append_row (P := P) t o.type e i z size bytes ht hi hz hsz hby hzs hs0 hown hy hyl hy1 hlen hnm
    unfold Oper.wp execOp
    simp only [ho, resolve, invoke, builtin, Sem.run_bind, Sem.run_pure, Result.andThen_ok, List.map_toArray, List.map_cons, List.map_nil, hs, hx, hr]
    exact hK _ _ (h v' w' (hn w' _ _ ⟨h2, rfl⟩ h3 h4) (Quiet.upd h3))
end
end Go.Proofs.Ytfihmpkkpgmdhab
