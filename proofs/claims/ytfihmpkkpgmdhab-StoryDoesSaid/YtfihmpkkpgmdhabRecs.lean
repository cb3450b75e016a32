import Derived.Test.YtfihmpkkpgmdhabCodec1
namespace Go.Proofs.Ytfihmpkkpgmdhab
set_option maxRecDepth 100000
set_option linter.unusedSimpArgs false
set_option linter.unusedVariables false
open Go.RowKit
/-- The cells of records. -/
def rvs (l : List Rec) : List Value := l.flatMap rcells
theorem rcells_length (r : Rec) : (rcells r).length = 7 := rfl
theorem rvs_length (l : List Rec) : (rvs l).length = l.length * 7 := by
  induction l with
  | nil => rfl
  | cons r l ih => simp only [rvs, List.flatMap_cons, List.length_append, List.length_cons] at *; rw [ih, rcells_length]; omega
theorem rvs_append (l m : List Rec) : rvs (l ++ m) = rvs l ++ rvs m := by simp [rvs]
theorem rvs_get (l : List Rec) : ∀ (i j : Nat), j < 7 → (rvs l)[i * 7 + j]? = (l[i]?).bind fun r => (rcells r)[j]? := by
  induction l with
  | nil => intro i j _; simp [rvs]
  | cons r l ih =>
    intro i j hj
    have e : rvs (r :: l) = rcells r ++ rvs l := by simp [rvs]
    rw [e]
    cases i with
    | zero => rw [List.getElem?_append_left (by rw [rcells_length]; omega)]; simp
    | succ i =>
      rw [List.getElem?_append_right (by rw [rcells_length]; omega), rcells_length, show (i + 1) * 7 + j - 7 = i * 7 + j by omega, ih i j hj]
      simp
theorem rvs_ones (l : List Rec) : ∀ u ∈ rvs l, u.oneCell' = true := by
  intro u hu
  simp only [rvs, List.mem_flatMap, rcells] at hu
  obtain ⟨x, _, h⟩ := hu
  simp at h
  rcases h with rfl | rfl | rfl | rfl | rfl | rfl | rfl <;> rfl
/-- Records that one owns. -/
def OwnR (w : World) (base : Nat) (v : Value) (l : List Rec) : Prop := w.ownsRow base 48 7 v l.length (rvs l)
theorem ownsRow_upd {F : Nat → Prop} {w w' : World} {base : Nat} {e : TypeId} {size : Nat} {v : Value} {n : Nat} {xs : List Value} (h : w.ownsRow base e size v n xs) (hu : Upd F w w') (hf : ∀ k, v.ownBlock = some k → ¬ F k) : w'.ownsRow base e size v n xs := by
  obtain ⟨h1, h | ⟨g, cap, cur, rfl, hb, hh, hr⟩⟩ := h
  · exact ⟨h1, .inl h⟩
  · refine ⟨h1, .inr ⟨g, cap, cur, rfl, hb, ?_, hr⟩⟩
    exact BlockAt.upd (cs := cur.toList) hh hu (hf g rfl)
theorem OwnR.nil (w : World) (base : Nat) : OwnR w base (.slice none 0 0) [] := ⟨rfl, .inl ⟨rfl, rfl⟩⟩
theorem OwnR.upd {F : Nat → Prop} {w w' : World} {base : Nat} {v : Value} {l : List Rec} (h : OwnR w base v l) (hu : Upd F w w') (hf : ∀ k, v.ownBlock = some k → ¬ F k) : OwnR w' base v l := ownsRow_upd h hu hf
theorem OwnR.ge {w : World} {base : Nat} {v : Value} {l : List Rec} (h : OwnR w base v l) {k : Nat} (hk : v.ownBlock = some k) : base ≤ k := by
  obtain ⟨h1, ⟨rfl, _⟩ | ⟨g, cap, cur, rfl, hb, _⟩⟩ := h
  · simp [Value.ownBlock] at hk
  · simp [Value.ownBlock] at hk; omega
theorem OwnR.lt {w : World} {base : Nat} {v : Value} {l : List Rec} (h : OwnR w base v l) {k : Nat} (hk : v.ownBlock = some k) : k < w.heap.size := by
  obtain ⟨h1, ⟨rfl, _⟩ | ⟨g, cap, cur, rfl, hb, hh, _⟩⟩ := h
  · simp [Value.ownBlock] at hk
  · simp [Value.ownBlock] at hk
    subst hk
    exact (Array.getElem?_eq_some_iff.1 hh).1
theorem OwnR.mono {w : World} {b b' : Nat} {v : Value} {l : List Rec} (h : OwnR w b v l) (hb : b' ≤ b) : OwnR w b' v l := by
  obtain ⟨h1, h | ⟨g, cap, cur, rfl, hg, hr⟩⟩ := h
  · exact ⟨h1, .inl h⟩
  · exact ⟨h1, .inr ⟨g, cap, cur, rfl, Nat.le_trans hb hg, hr⟩⟩
theorem BytesAt.drop {w : World} {g off n c : Nat} {l : List UInt8} (h : BytesAt w (.slice (some ⟨g, off, none⟩) n c) l) {q : Nat} (hq : q ≤ l.length) : BytesAt w (.slice (some ⟨g, off + q, none⟩) (n - q) (c - q)) (l.drop q) := by
  obtain ⟨a', c', e, h1, h2, h3, h4⟩ := h
  simp only [Value.slice.injEq] at e
  obtain ⟨rfl, rfl, rfl⟩ := e
  refine ⟨some ⟨g, off + q, none⟩, c - q, by rw [List.length_drop], by rw [List.length_drop]; omega, by omega, (fun e => by cases e), fun hne => ?_⟩
  obtain ⟨g', off', e, h5⟩ := h4 (by intro e; subst e; simp at hne)
  simp at e
  obtain ⟨rfl, rfl⟩ := e
  refine ⟨g, off + q, rfl, fun j u hu => ?_⟩
  rw [Nat.add_assoc]
  refine h5 (q + j) u ?_
  simpa [bvs, List.map_drop, List.getElem?_drop] using hu
theorem Try.infoRec : (Try.prog.info? 48).map (fun i => (i.zero, i.size, i.bytes)) = some (some (.agg #[.int .i64 0, .int .i64 0, .int .i64 0, .int .i64 0, .int .i64 0, .int .i64 0, .int .i64 0]), 7, 56) := by kernel_rfl
section
variable {P : Program}
/-- append of one record, laid in a block of its own, to records that one owns. -/
theorem wpList_append_rec {w : World} {ops : Array Oper} {rest : List Oper} {o : Oper} {a : Act} {Q : Exit → Act → World → Prop} (hgd : o.guard = none) (s x : Operand) (t : TypeId)
    (ho : o.op = .call { callee := .builtin .append, args := #[s, x], argTypes := #[t, t] })
    (i : TypeInfo) (ht : P.underlying t = some (.slice 48)) (hi : P.info? 48 = some i) (hz : i.zero = some (.agg #[.int .i64 0, .int .i64 0, .int .i64 0, .int .i64 0, .int .i64 0, .int .i64 0, .int .i64 0])) (hsz : i.size = 7) (hby : i.bytes = 56)
    {base : Nat} {v : Value} {g c : Nat} {l : List Rec} {r : Rec} (hs : a.eval s = v) (hx : a.eval x = .slice (some ⟨g, 0, none⟩) 1 c) (hv : OwnR w base v l) (hy : BlockAt w g 48 (rcells r)) (hlen : l.length ≤ 100000) (hbase : base ≤ w.heap.size)
    (h : ∀ v' w', OwnR w' base v' (l ++ [r]) → w.grownBy w' v.ownBlock → wpList P ops Q rest (a.put o.dst v') w') : wpList P ops Q (o :: rest) a w :=
  wpList_append_own w hgd s x t ho base 48 i _ 7 56 ht hi hz hsz hby rfl (by decide) v l.length (rvs l) hs hv ⟨g, 0, none⟩ 1 c (rcells r) hx rfl
    (fun j u hj => by rw [Addr.add_lit, Nat.zero_add]; exact hy.cell j u hj)
    (by intro u hu; exact rvs_ones [r] u (by simpa [rvs] using hu))
    (by unfold maxLen; omega) (by omega) hbase
    fun v' w' h1 h2 h3 => h v' w' (by unfold OwnR; rw [rvs_append, List.length_append]; simpa [rvs] using h1) h2
end
end Go.Proofs.Ytfihmpkkpgmdhab
