/-
  A disk of the program's, beside whatever else stands in memory.
-/
import Derived.Test.YtfihmpkkpgmdhacCodecG
import Derived.Test.YtfihmpkkpgmdhacJobsG
import Derived.Test.YtfihmpkkpgmdhacPlainM
namespace Go.Proofs.Ytfihmpkkpgmdhac
set_option linter.unusedSimpArgs false
set_option linter.unusedVariables false
open Go.RowKit
def dsk (b : Nat) (d : Dsk) : HP where
  on F w := DiskAt w b d F
  lt := fun h k hk => h.inW k hk
  keep := by
    rintro F w w' ⟨v, hb, hv, rfl⟩ hk
    refine ⟨v, by unfold BlockAt at *; rw [hk b (.inl rfl)]; exact hb, ?_, rfl⟩
    exact ((ownb v d.b).keep (F := fun k => v.ownBlock = some k) ⟨hv, rfl⟩ fun k h => hk k (.inr h)).1
theorem dnew_sl (w : World) {R : HP} (h : Holds w R) : Calls Try.prog 31 #[] w (PostX w R (fun b : Nat => .pointer (some ⟨b, 0, none⟩)) fun b => dsk b Dsk.zero) :=
  (dnew_any w).mono fun e w' ⟨b, F, he, hb, hd, hl⟩ => ⟨b, he, Quiet.below hb, h.new hb.block hd hl⟩
theorem depoch_sl (b : Nat) (d : Dsk) (w : World) {R : HP} (h : Holds w (dsk b d * R)) : Calls Try.prog 19 #[.pointer (some ⟨b, 0, none⟩)] w fun e w' => e = .returned (.int .i64 d.ep) ∧ w = w' := by
  obtain ⟨F, hF⟩ := h.left
  exact epoch_any b d F w hF
theorem Holds.diskPost {w w' : World} {b : Nat} {d d' : Dsk} {R : HP} {v : Value} {e : Ending} {F : Nat → Prop} (hn : ∀ (w' : World) (F' : Nat → Prop) (B : HP), B.on F' w' → Upd F w w' → From w F F' → Holds w' (B * R)) (hp : DiskPost w b F d' v e w') : Post w R v (dsk b d') e w' := by
  obtain ⟨F', he, h1, h2, h3⟩ := hp
  exact ⟨he, Quiet.upd h2, hn _ _ (dsk b d') h1 h2 h3⟩
theorem raise_sl (b : Nat) (d : Dsk) (w : World) {R : HP} (h : Holds w (dsk b d * R)) (hok : d.Ok) :
    Calls Try.prog 61 #[.pointer (some ⟨b, 0, none⟩)] w (Post w R (.tuple #[.int .i64 d.raise.2.1, .int .i64 d.raise.2.2]) (dsk b d.raise.1)) := by
  obtain ⟨F, hF, hn⟩ := h.open
  exact (raise_any b d F w hF hok).mono fun e w' hp => Holds.diskPost (d := d) hn hp
theorem append_sl (b : Nat) (d : Dsk) (x : Int) (y : Value) (m : List UInt8) (w : World) {R : HP} (h : Holds w (dsk b d * R)) (hok : d.Ok) (hy : BytesAt w y m) (hm : m.length ≤ 100000) :
    Calls Try.prog 69 #[.pointer (some ⟨b, 0, none⟩), .int .i64 x, y] w (Post w R (.int .i64 (d.append x m).2) (dsk b (d.append x m).1)) := by
  obtain ⟨F, hF, hn⟩ := h.open
  exact (append_any b d F x y m w hF hok hy hm).mono fun e w' hp => Holds.diskPost (d := d) hn hp
theorem cut_sl (b : Nat) (d : Dsk) (x n : Int) (w : World) {R : HP} (h : Holds w (dsk b d * R)) (hok : d.Ok) :
    Calls Try.prog 62 #[.pointer (some ⟨b, 0, none⟩), .int .i64 x, .int .i64 n] w (Post w R (.int .i64 (d.cut x n).2) (dsk b (d.cut x n).1)) := by
  obtain ⟨F, hF, hn⟩ := h.open
  exact (cut_any b d F x n w hF hok).mono fun e w' hp => Holds.diskPost (d := d) hn hp
theorem bytes_sl (b : Nat) (d : Dsk) (w : World) {R : HP} (h : Holds w (dsk b d * R)) (hok : d.Ok) :
    Calls Try.prog 13 #[.pointer (some ⟨b, 0, none⟩)] w (PostX w (dsk b d * R) (fun v => v) fun v => ownb v d.b) := by
  obtain ⟨F, hF⟩ := h.left
  exact (bytes_any b d F w hF hok).mono fun e w' ⟨v, he, ho, hb, hl⟩ => ⟨v, he, Quiet.below hb, h.newO hb ho hl⟩

/-- A node of the program's, with its table at bt. -/
def nblk (bn bt bd : Nat) (n : Nod) : HP := bl bn 61 [.pointer (some ⟨bt, 0, none⟩), .pointer (some ⟨bd, 0, none⟩), .int .i64 n.ep, .bool n.down]
def nod (bn bd : Nat) (n : Nod) : HP := HP.ex fun bt : Nat => nblk bn bt bd n * tab bt n.t
theorem HP.ex_mul {α : Type} {A : α → HP} {B : HP} {w : World} (h : Holds w (HP.ex A * B)) : ∃ x, Holds w (A x * B) := by
  obtain ⟨F, F1, F2, hd, hF, ⟨x, ha⟩, hb⟩ := h
  exact ⟨x, F, F1, F2, hd, hF, ha, hb⟩
theorem HP.mul_ex {α : Type} {A : α → HP} {B : HP} {w : World} {x : α} (h : Holds w (A x * B)) : Holds w (HP.ex A * B) := by
  obtain ⟨F, F1, F2, hd, hF, ha, hb⟩ := h
  exact ⟨F, F1, F2, hd, hF, ⟨x, ha⟩, hb⟩
theorem nod_open {w : World} {bn bd : Nat} {n : Nod} {R : HP} (h : Holds w (nod bn bd n * R)) : ∃ bt : Nat, Holds w (nblk bn bt bd n * (tab bt n.t * R)) := by
  obtain ⟨bt, h⟩ := HP.ex_mul h
  exact ⟨bt, h.eq (HP.assoc _ _ _)⟩
theorem nod_close {w : World} {bn bt bd : Nat} {n : Nod} {R : HP} (h : Holds w (nblk bn bt bd n * (tab bt n.t * R))) : Holds w (nod bn bd n * R) :=
  HP.mul_ex (A := fun bt : Nat => nblk bn bt bd n * tab bt n.t) (x := bt) (h.eq (HP.assoc _ _ _).symm)
end Go.Proofs.Ytfihmpkkpgmdhac
