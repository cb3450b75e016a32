/-
  Assertions on memory, with footprints: what stands where, apart from all else.
-/
import Derived.Test.YtfihmpkkpgmdhabMem2
namespace Go.Proofs.Ytfihmpkkpgmdhab
set_option linter.unusedSimpArgs false
set_option linter.unusedVariables false
open Go.RowKit

/-- An assertion on the blocks of a set. -/
structure HP where
  on : (Nat → Prop) → World → Prop
  lt : ∀ {F : Nat → Prop} {w : World}, on F w → ∀ k, F k → k < w.heap.size
  keep : ∀ {F : Nat → Prop} {w w' : World}, on F w → (∀ k, F k → w'.heap[k]? = w.heap[k]?) → on F w'
theorem HP.ext' {A B : HP} (h : ∀ F w, A.on F w ↔ B.on F w) : A = B := by
  obtain ⟨a, _, _⟩ := A
  obtain ⟨b, _, _⟩ := B
  have : a = b := by funext F w; exact propext (h F w)
  subst this
  rfl
def HP.sep (A B : HP) : HP where
  on F w := ∃ F1 F2 : Nat → Prop, (∀ k, F1 k → ¬ F2 k) ∧ (∀ k, F k ↔ F1 k ∨ F2 k) ∧ A.on F1 w ∧ B.on F2 w
  lt := fun ⟨F1, F2, _, hF, ha, hb⟩ k hk => ((hF k).1 hk).elim (A.lt ha k) (B.lt hb k)
  keep := fun ⟨F1, F2, hd, hF, ha, hb⟩ h => ⟨F1, F2, hd, hF, A.keep ha fun k hk => h k ((hF k).2 (.inl hk)), B.keep hb fun k hk => h k ((hF k).2 (.inr hk))⟩
instance : Mul HP := ⟨HP.sep⟩
theorem HP.mul_on {A B : HP} {F : Nat → Prop} {w : World} : (A * B).on F w ↔ ∃ F1 F2 : Nat → Prop, (∀ k, F1 k → ¬ F2 k) ∧ (∀ k, F k ↔ F1 k ∨ F2 k) ∧ A.on F1 w ∧ B.on F2 w := Iff.rfl
theorem HP.comm (A B : HP) : A * B = B * A := HP.ext' fun F w => ⟨fun ⟨F1, F2, hd, hF, ha, hb⟩ => ⟨F2, F1, fun k h2 h1 => hd k h1 h2, fun k => (hF k).trans Or.comm, hb, ha⟩, fun ⟨F1, F2, hd, hF, ha, hb⟩ => ⟨F2, F1, fun k h2 h1 => hd k h1 h2, fun k => (hF k).trans Or.comm, hb, ha⟩⟩
theorem HP.assoc (A B C : HP) : A * B * C = A * (B * C) := HP.ext' fun F w => by
  constructor
  · rintro ⟨F12, F3, hd, hF, ⟨F1, F2, hd', hF', ha, hb⟩, hc⟩
    refine ⟨F1, fun k => F2 k ∨ F3 k, fun k h1 h2 => ?_, fun k => ?_, ha, F2, F3, fun k h2 h3 => hd k ((hF' k).2 (.inr h2)) h3, fun k => Iff.rfl, hb, hc⟩
    · rcases h2 with h2 | h2
      · exact hd' k h1 h2
      · exact hd k ((hF' k).2 (.inl h1)) h2
    · rw [hF, hF', or_assoc]
  · rintro ⟨F1, F23, hd, hF, ha, F2, F3, hd', hF', hb, hc⟩
    refine ⟨fun k => F1 k ∨ F2 k, F3, fun k h1 h3 => ?_, fun k => ?_, ⟨F1, F2, fun k h1 h2 => hd k h1 ((hF' k).2 (.inl h2)), fun k => Iff.rfl, ha, hb⟩, hc⟩
    · rcases h1 with h1 | h1
      · exact hd k h1 ((hF' k).2 (.inr h3))
      · exact hd' k h1 h3
    · rw [hF, hF', or_assoc]
instance : Std.Associative (α := HP) (· * ·) := ⟨HP.assoc⟩
instance : Std.Commutative (α := HP) (· * ·) := ⟨HP.comm⟩

/-- Nothing asked. -/
def HP.emp : HP where
  on F w := ∀ k, ¬ F k
  lt := fun h k hk => absurd hk (h k)
  keep := fun h _ => h
def HP.ex {α : Type} (A : α → HP) : HP where
  on F w := ∃ x, (A x).on F w
  lt := fun ⟨x, h⟩ => (A x).lt h
  keep := fun ⟨x, h⟩ hk => ⟨x, (A x).keep h hk⟩
/-- With a fact beside it. -/
def HP.wi (p : Prop) (A : HP) : HP where
  on F w := p ∧ A.on F w
  lt := fun h => A.lt h.2
  keep := fun h hk => ⟨h.1, A.keep h.2 hk⟩

def Holds (w : World) (A : HP) : Prop := ∃ F, A.on F w
theorem Holds.eq {w : World} {A B : HP} (h : Holds w A) (e : A = B) : Holds w B := e ▸ h
theorem Holds.left {w : World} {A B : HP} (h : Holds w (A * B)) : Holds w A := by
  obtain ⟨F, F1, F2, _, _, ha, _⟩ := h
  exact ⟨F1, ha⟩
theorem Holds.right {w : World} {A B : HP} (h : Holds w (A * B)) : Holds w B := by
  obtain ⟨F, F1, F2, _, _, _, hb⟩ := h
  exact ⟨F2, hb⟩
theorem Holds.swap {w : World} {A B : HP} (h : Holds w (A * B)) : Holds w (B * A) := h.eq (HP.comm _ _)
/-- The first of three, and so on, taken to the front. -/
theorem Holds.two {w : World} {A B C : HP} (h : Holds w (A * (B * C))) : Holds w (B * (A * C)) := h.eq (by ac_rfl)
theorem Holds.three {w : World} {A B C D : HP} (h : Holds w (A * (B * (C * D)))) : Holds w (C * (A * (B * D))) := h.eq (by ac_rfl)
theorem Holds.four {w : World} {A B C D E : HP} (h : Holds w (A * (B * (C * (D * E))))) : Holds w (D * (A * (B * (C * E)))) := h.eq (by ac_rfl)
/-- What is held at its place may be said otherwise. -/
theorem Holds.imp {w : World} {A B R : HP} (h : Holds w (A * R)) (hi : ∀ F, A.on F w → B.on F w) : Holds w (B * R) := by
  obtain ⟨F, F1, F2, hd, hF, ha, hb⟩ := h
  exact ⟨F, F1, F2, hd, hF, hi _ ha, hb⟩
theorem Holds.open {w : World} {A R : HP} (h : Holds w (A * R)) : ∃ F, A.on F w ∧ ∀ (w' : World) (F' : Nat → Prop) (B : HP), B.on F' w' → Upd F w w' → From w F F' → Holds w' (B * R) := by
  obtain ⟨F, F1, F2, hd, hF, ha, hb⟩ := h
  refine ⟨F1, ha, fun w' F' B hB hu hf => ?_⟩
  refine ⟨_, F', F2, fun k h1 h2 => ?_, fun k => Iff.rfl, hB, R.keep hb fun k hk => hu.block k (R.lt hb k hk) fun h => hd k h hk⟩
  rcases hf k h1 with h3 | h3
  · exact hd k h3 h2
  · have := R.lt hb k h2; omega
/-- All that stood stands. -/
theorem Holds.to {w w' : World} {A : HP} (h : Holds w A) (hb : ∀ k, k < w.heap.size → w'.heap[k]? = w.heap[k]?) : Holds w' A := by
  obtain ⟨F, ha⟩ := h
  exact ⟨F, A.keep ha fun k hk => hb k (A.lt ha k hk)⟩
theorem Holds.below {w w' : World} {A : HP} (h : Holds w A) (hb : Below w.heap.size w w') : Holds w' A := h.to hb.block
theorem Holds.drew {w : World} {A : HP} (h : Holds w A) : Holds w.drew A := h.to fun _ _ => rfl
theorem Holds.drewN {w : World} {A : HP} (h : Holds w A) (n : Nat) : Holds (w.drewN n) A := h.to fun _ _ => rfl
theorem Holds.alloc {w : World} {A : HP} (h : Holds w A) (o : Obj) : Holds (w.alloc o) A := h.to fun k hk => Below.heap_alloc w o k hk
/-- Something new beside it. -/
theorem Holds.new {w w' : World} {A B : HP} (h : Holds w A) (hb : ∀ k, k < w.heap.size → w'.heap[k]? = w.heap[k]?) {F : Nat → Prop} (hB : B.on F w') (hF : ∀ k, F k → w.heap.size ≤ k) : Holds w' (B * A) := by
  obtain ⟨G, ha⟩ := h
  exact ⟨_, F, G, fun k h1 h2 => by have := hF k h1; have := A.lt ha k h2; omega, fun k => Iff.rfl, hB, A.keep ha fun k hk => hb k (A.lt ha k hk)⟩

/-- A block. -/
def bl (b : Nat) (ty : TypeId) (cs : List Value) : HP where
  on F w := BlockAt w b ty cs ∧ F = fun k => k = b
  lt := by rintro F w ⟨h, rfl⟩ k rfl; exact h.lt
  keep := by rintro F w w' ⟨h, rfl⟩ hk; exact ⟨by unfold BlockAt at *; rw [hk b rfl]; exact h, rfl⟩
/-- Bytes that one owns. -/
def ownb (v : Value) (l : List UInt8) : HP where
  on F w := OwnB w v l ∧ F = fun k => v.ownBlock = some k
  lt := by rintro F w ⟨h, rfl⟩ k hk; exact h.lt hk
  keep := by
    rintro F w w' ⟨h, rfl⟩ hk
    refine ⟨?_, rfl⟩
    rcases h with h | ⟨g, cap, cur, rfl, hb, hr⟩
    · exact .inl h
    · exact .inr ⟨g, cap, cur, rfl, by unfold BlockAt at *; rw [hk g rfl]; exact hb, hr⟩
/-- All that there was at w0, as it was. -/
def old (w0 : World) : HP where
  on F w := (∀ k, k < w0.heap.size → w.heap[k]? = w0.heap[k]?) ∧ F = fun k => k < w0.heap.size
  lt := by
    rintro F w ⟨h, rfl⟩ k hk
    have := h k hk
    rw [Array.getElem?_eq_getElem hk] at this
    exact (Array.getElem?_eq_some_iff.1 this).1
  keep := by rintro F w w' ⟨h, rfl⟩ hk; exact ⟨fun k h1 => (hk k h1).trans (h k h1), rfl⟩

/-- Nothing outside memory is other; no block is gone. -/
structure Quiet (w w' : World) : Prop where
  os : w'.os = w.os
  tape : w'.tape = w.tape
  output : w'.output = w.output
  size : w.heap.size ≤ w'.heap.size
theorem Quiet.refl (w : World) : Quiet w w := ⟨rfl, rfl, rfl, Nat.le_refl _⟩
theorem Quiet.trans {a b c : World} (h : Quiet a b) (k : Quiet b c) : Quiet a c := ⟨k.os.trans h.os, k.tape.trans h.tape, k.output.trans h.output, Nat.le_trans h.size k.size⟩
theorem Quiet.below {a b : World} {B : Nat} (k : Below B a b) : Quiet a b := ⟨k.os, k.tape, k.output, k.size⟩
theorem Quiet.grown {a b : World} {r : Option Nat} (k : a.grownBy b r) : Quiet a b := ⟨k.os, k.tape, k.output, k.size⟩
theorem Quiet.upd {a b : World} {F : Nat → Prop} (k : Upd F a b) : Quiet a b := ⟨k.os, k.tape, k.output, k.size⟩
theorem Quiet.alloc {a b : World} (h : Quiet a b) (o : Obj) : Quiet a (b.alloc o) := ⟨h.os, h.tape, h.output, Nat.le_trans h.size (by simp)⟩
theorem Quiet.drew {a b : World} (h : Quiet a b) : Quiet a b.drew := ⟨h.os, h.tape, h.output, h.size⟩
theorem Quiet.drewN {a b : World} (h : Quiet a b) (n : Nat) : Quiet a (b.drewN n) := ⟨h.os, h.tape, h.output, h.size⟩
theorem Quiet.setCell {a b : World} (h : Quiet a b) (p : Addr) (u : Value) : Quiet a (b.setCell p u) := ⟨h.os, h.tape, h.output, by simpa [World.setCell] using h.size⟩

theorem Holds.old {w : World} : Holds w (old w) := ⟨_, fun _ _ => rfl, rfl⟩
theorem Holds.toBelow {w0 w : World} {A : HP} (h : Holds w (A * Go.Proofs.Ytfihmpkkpgmdhab.old w0)) (q : Quiet w0 w) : Below w0.heap.size w0 w := by
  obtain ⟨F, h, rfl⟩ := h.right
  exact ⟨q.os, q.tape, q.output, q.size, h⟩
theorem Holds.toBelow' {w0 w : World} (h : Holds w (Go.Proofs.Ytfihmpkkpgmdhab.old w0)) (q : Quiet w0 w) : Below w0.heap.size w0 w := by
  obtain ⟨F, h, rfl⟩ := h
  exact ⟨q.os, q.tape, q.output, q.size, h⟩
theorem Holds.bl {w : World} {b : Nat} {ty : TypeId} {cs : List Value} {A : HP} (h : Holds w (bl b ty cs * A)) : BlockAt w b ty cs := by
  obtain ⟨F, h, _⟩ := h.left
  exact h
theorem Holds.ownb {w : World} {v : Value} {l : List UInt8} {A : HP} (h : Holds w (ownb v l * A)) : OwnB w v l := by
  obtain ⟨F, h, _⟩ := h.left
  exact h
theorem Holds.allocB {w : World} {A : HP} (h : Holds w A) (ty : TypeId) (cs : List Value) : Holds (w.alloc (.cells cs.toArray ty)) (Go.Proofs.Ytfihmpkkpgmdhab.bl w.heap.size ty cs * A) :=
  h.new (fun k hk => Below.heap_alloc w _ k hk) ⟨BlockAt.new w ty cs, rfl⟩ (by rintro k rfl; exact Nat.le_refl _)
theorem Holds.setB {w : World} {b : Nat} {ty : TypeId} {cs : List Value} {A : HP} (h : Holds w (Go.Proofs.Ytfihmpkkpgmdhab.bl b ty cs * A)) (o : Nat) (v : Value) : Holds (w.setCell ⟨b, o, none⟩ v) (Go.Proofs.Ytfihmpkkpgmdhab.bl b ty (cs.set o v) * A) := by
  obtain ⟨F, ⟨hb, rfl⟩, hn⟩ := h.open
  exact hn _ _ _ ⟨hb.set o v, rfl⟩ (Upd.setCell (F := fun k => k = b) (p := ⟨b, o, none⟩) (Upd.refl _ w) (.inl rfl) v) (From.refl _ _)
theorem Holds.grown {w w' : World} {b : Nat} {ty : TypeId} {cs cs' : List Value} {A : HP} (h : Holds w (Go.Proofs.Ytfihmpkkpgmdhab.bl b ty cs * A)) (hg : w.grownBy w' (some b)) (hb : BlockAt w' b ty cs') : Holds w' (Go.Proofs.Ytfihmpkkpgmdhab.bl b ty cs' * A) := by
  obtain ⟨F, ⟨_, rfl⟩, hn⟩ := h.open
  exact hn _ _ _ ⟨hb, rfl⟩ ((Upd.of_grown hg).mono (by rintro k h; simp at h; exact h.symm)) (From.refl _ _)
/-- Something new of a call that turned nothing. -/
theorem Holds.newB {w w' : World} {b : Nat} {ty : TypeId} {cs : List Value} {A : HP} (h : Holds w A) (hb : Below w.heap.size w w') (hn : BlockAt w' b ty cs) (hl : w.heap.size ≤ b) : Holds w' (Go.Proofs.Ytfihmpkkpgmdhab.bl b ty cs * A) :=
  h.new hb.block ⟨hn, rfl⟩ (by rintro k rfl; exact hl)
theorem Holds.newO {w w' : World} {v : Value} {l : List UInt8} {A : HP} (h : Holds w A) (hb : Below w.heap.size w w') (hn : OwnB w' v l) (hl : ∀ k, v.ownBlock = some k → w.heap.size ≤ k) : Holds w' (Go.Proofs.Ytfihmpkkpgmdhab.ownb v l * A) :=
  h.new hb.block ⟨hn, rfl⟩ hl

/-- What stands beside all that there was stands beside any of it. -/
theorem Holds.frame {w w' : World} {Q R : HP} (h : Holds w' (Q * Go.Proofs.Ytfihmpkkpgmdhab.old w)) (hR : Holds w R) : Holds w' (Q * R) := by
  obtain ⟨F, F1, F2, hd, hF, ha, ho, rfl⟩ := h
  obtain ⟨G, hG⟩ := hR
  exact ⟨_, F1, G, fun k h1 h2 => hd k h1 (R.lt hG k h2), fun k => Iff.rfl, ha, R.keep hG fun k hk => ho k (R.lt hG k hk)⟩
theorem Holds.frame0 {w w' : World} {R : HP} (h : Holds w' (Go.Proofs.Ytfihmpkkpgmdhab.old w)) (hR : Holds w R) : Holds w' R := by
  obtain ⟨F, ho, rfl⟩ := h
  exact hR.to ho
theorem Holds.block {w0 w : World} (h : Holds w (Go.Proofs.Ytfihmpkkpgmdhab.old w0)) : ∀ k, k < w0.heap.size → w.heap[k]? = w0.heap[k]? := by
  obtain ⟨F, ho, rfl⟩ := h
  exact ho
/-- What is answered; what stands behind it, beside what stood. -/
def Post (w : World) (R : HP) (v : Value) (Q : HP) (e : Ending) (w' : World) : Prop := e = .returned v ∧ Quiet w w' ∧ Holds w' (Q * R)
def PostN (w : World) (R : HP) (v : Value) (e : Ending) (w' : World) : Prop := e = .returned v ∧ Quiet w w' ∧ Holds w' R
def PostX {α : Type} (w : World) (R : HP) (v : α → Value) (Q : α → HP) (e : Ending) (w' : World) : Prop := ∃ x, e = .returned (v x) ∧ Quiet w w' ∧ Holds w' (Q x * R)
end Go.Proofs.Ytfihmpkkpgmdhab
