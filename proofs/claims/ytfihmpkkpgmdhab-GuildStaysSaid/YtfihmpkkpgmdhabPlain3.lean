/-
  Plain definitions: records as bytes.
-/
import Derived.Test.YtfihmpkkpgmdhabPlain
namespace Go.Proofs.Ytfihmpkkpgmdhab

structure Rec where
  ep : Int
  o : Ord
def Ord.zero : Ord := ⟨0, 0, 0, 0, 0, 0⟩
def Rec.zero : Rec := ⟨0, Ord.zero⟩
def chkR (r : Rec) : Int := if r.ep < 1 ∨ 100 < r.ep then 3 else chk r.o

/-- The sum: each byte times its place, from k on. -/
def sumFrom : Nat → Nat → List UInt8 → Nat
  | _, acc, [] => acc
  | k, acc, x :: l => sumFrom (k + 1) (acc + (k + 1) * x.toNat) l
def sumB (l : List UInt8) : Nat := sumFrom 0 1 l
def csum (l : List UInt8) : UInt8 := UInt8.ofNat (sumB l % 251)
theorem sumFrom_append (l m : List UInt8) : ∀ (k acc : Nat), sumFrom k acc (l ++ m) = sumFrom (k + l.length) (sumFrom k acc l) m := by
  induction l with
  | nil => intro k acc; simp [sumFrom]
  | cons x l ih =>
    intro k acc
    simp only [List.cons_append, sumFrom, ih, List.length_cons]
    rw [show k + 1 + l.length = k + (l.length + 1) by omega]
theorem sumFrom_le (l : List UInt8) : ∀ (k acc : Nat), sumFrom k acc l ≤ acc + l.length * ((k + l.length) * 255) := by
  induction l with
  | nil => intro k acc; simp [sumFrom]
  | cons x l ih =>
    intro k acc
    have h := ih (k + 1) (acc + (k + 1) * x.toNat)
    have hx : x.toNat ≤ 255 := by have := x.toNat_lt; omega
    have h1 : (k + 1) * x.toNat ≤ (k + 1) * 255 := Nat.mul_le_mul_left _ hx
    simp only [sumFrom, List.length_cons]
    have h2 : (l.length + 1) * ((k + (l.length + 1)) * 255) = l.length * ((k + 1 + l.length) * 255) + (k + 1 + l.length) * 255 := by
      rw [Nat.add_mul, Nat.one_mul, show k + (l.length + 1) = k + 1 + l.length by omega]
    have h3 : (k + 1) * 255 ≤ (k + 1 + l.length) * 255 := Nat.mul_le_mul_right _ (by omega)
    omega
theorem sumB_snoc (l : List UInt8) (x : UInt8) : sumB (l ++ [x]) = sumB l + (l.length + 1) * x.toNat := by
  simp [sumB, sumFrom_append, sumFrom]
theorem sumB_take (l : List UInt8) (k : Nat) (h : k < l.length) : sumB (l.take (k + 1)) = sumB (l.take k) + (k + 1) * (l.getD k 0).toNat := by
  rw [List.take_succ_eq_append_getElem h, sumB_snoc]
  simp [show min k l.length = k by omega, h]
theorem sumB_le (l : List UInt8) (h : l.length ≤ 1000) : sumB l ≤ 300000000 := by
  have h1 := sumFrom_le l 0 1
  have h2 : l.length * ((0 + l.length) * 255) ≤ 1000 * ((0 + 1000) * 255) := Nat.mul_le_mul h (Nat.mul_le_mul_right _ (by omega))
  unfold sumB
  omega
theorem csum_toNat (l : List UInt8) : (csum l).toNat = sumB l % 251 := by
  unfold csum
  rw [UInt8.toNat_ofNat']
  have := Nat.mod_lt (sumB l) (show 0 < 251 by decide)
  omega

def u8 (n : Int) : UInt8 := UInt8.ofNat n.toNat
/-- The bytes ahead of the sum. -/
def encH (r : Rec) : List UInt8 := [u8 r.ep, u8 r.o.kind, u8 (r.o.now / 256), u8 (r.o.now % 256), u8 r.o.job, u8 r.o.tr, u8 r.o.wk, u8 r.o.tm]
def encB (r : Rec) : List UInt8 := encH r ++ [csum (encH r)]
def nat (l : List UInt8) (i : Nat) : Int := ((l.getD i 0).toNat : Int)
def recH (l : List UInt8) : Rec := ⟨nat l 0, ⟨nat l 1, 256 * nat l 2 + nat l 3, nat l 4, nat l 5, nat l 6, nat l 7⟩⟩
def decB (l : List UInt8) : Rec × Int :=
  if l.length < 9 then (Rec.zero, 7)
  else if csum (l.take 8) ≠ l.getD 8 0 then (Rec.zero, 2)
  else if chkR (recH l) ≠ 0 then (Rec.zero, chkR (recH l))
  else (recH l, 0)
def allFrom : Nat → Int → List UInt8 → List Rec
  | 0, _, _ => []
  | n + 1, last, l => if (decB l).2 ≠ 0 ∨ (decB l).1.ep < last then [] else (decB l).1 :: allFrom n (decB l).1.ep (l.drop 9)
def allB (l : List UInt8) : List Rec := allFrom (l.length + 1) 0 l
theorem decB_len {l : List UInt8} (h : (decB l).2 = 0) : 9 ≤ l.length := by
  unfold decB at h
  split at h
  · simp at h
  · omega
theorem allFrom_fuel : ∀ (n m : Nat) (last : Int) (l : List UInt8), l.length < 9 * n → l.length < 9 * m → allFrom n last l = allFrom m last l
  | 0, _, _, _, h, _ => by omega
  | _, 0, _, _, _, h => by omega
  | n + 1, m + 1, last, l, h1, h2 => by
    unfold allFrom
    split
    · rfl
    · rename_i h
      have := decB_len (l := l) (by omega)
      rw [allFrom_fuel n m _ _ (by simp; omega) (by simp; omega)]

end Go.Proofs.Ytfihmpkkpgmdhab
