/-
  Plain definitions: a disk.
-/
import Derived.Test.YtfihmpkkpgmdhabPlain
namespace Go.Proofs.Ytfihmpkkpgmdhab

structure Dsk where
  ep : Int
  b : List UInt8
def Dsk.zero : Dsk := ⟨0, []⟩
def Dsk.raise (d : Dsk) : Dsk × Int × Int := if 100 ≤ d.ep then (d, 0, 8) else (⟨d.ep + 1, d.b⟩, d.ep + 1, 0)
def Dsk.may (d : Dsk) (e : Int) : Int := if e < 1 ∨ e ≠ d.ep then 9 else 0
def Dsk.append (d : Dsk) (e : Int) (m : List UInt8) : Dsk × Int :=
  if e < 1 ∨ e ≠ d.ep then (d, 9) else if 1500 < d.b.length + m.length then (d, 8) else (⟨d.ep, d.b ++ m⟩, 0)
def Dsk.cut (d : Dsk) (e n : Int) : Dsk × Int :=
  if e < 1 ∨ e ≠ d.ep then (d, 9) else if n < 0 ∨ (d.b.length : Int) < n then (d, 3) else (⟨d.ep, d.b.take n.toNat⟩, 0)
structure Dsk.Ok (d : Dsk) : Prop where
  ep : 0 ≤ d.ep ∧ d.ep ≤ 100
  b : d.b.length ≤ 1500
theorem Dsk.zero_ok : Dsk.zero.Ok := ⟨by simp [Dsk.zero], by simp [Dsk.zero]⟩
theorem Dsk.raise_ok {d : Dsk} (h : d.Ok) : d.raise.1.Ok := by
  unfold Dsk.raise
  split
  · exact h
  · have := h.ep; exact ⟨by simp only []; omega, h.b⟩
theorem Dsk.append_ok {d : Dsk} (h : d.Ok) (e : Int) (m : List UInt8) : (d.append e m).1.Ok := by
  unfold Dsk.append
  split
  · exact h
  · split
    · exact h
    · exact ⟨h.ep, by simp; omega⟩
theorem Dsk.cut_ok {d : Dsk} (h : d.Ok) (e n : Int) : (d.cut e n).1.Ok := by
  unfold Dsk.cut
  split
  · exact h
  · split
    · exact h
    · exact ⟨h.ep, by have := h.b; simp; omega⟩

end Go.Proofs.Ytfihmpkkpgmdhab
