/-
  What stands in memory of a disk of the call's own; bytes as a text.
-/
import Derived.Test.YtfihmpkkpgmdhabDisk
import Derived.Lib.SlBytesConst
namespace Go.Proofs.Ytfihmpkkpgmdhab
set_option maxRecDepth 100000
open Go.RowKit

/-- A disk of the call's own: nothing that was there when the call began is other. -/
structure DSt (w0 w : World) (b : Nat) (d : Dsk) (F : Nat → Prop) : Prop where
  ok : d.Ok
  at_ : DiskAt w b d F
  ge : ∀ k, F k → w0.heap.size ≤ k
  below : Below w0.heap.size w0 w
theorem DSt.upd {G : Nat → Prop} {w0 w w' : World} {b : Nat} {d : Dsk} {F : Nat → Prop} (h : DSt w0 w b d F) (hu : Upd G w w') (hs : Sep F G) (hg : ∀ k, G k → w0.heap.size ≤ k) : DSt w0 w' b d F :=
  ⟨h.ok, h.at_.upd hu hs, h.ge, h.below.trans (hu.below h.below.size hg)⟩
theorem DSt.new {w0 w : World} {b : Nat} {d : Dsk} {F : Nat → Prop} (h : DSt w0 w b d F) {w' : World} (hb : Below w.heap.size w w') : DSt w0 w' b d F :=
  h.upd (Upd.of_below hb (fun _ => False)) (fun _ _ h => h) (fun _ h => h.elim)
theorem DSt.alloc {w0 w : World} {b : Nat} {d : Dsk} {F : Nat → Prop} (h : DSt w0 w b d F) (o : Obj) : DSt w0 (w.alloc o) b d F :=
  h.new ((Below.refl _ _).alloc (Nat.le_refl _) o)
theorem DSt.drewN {w0 w : World} {b : Nat} {d : Dsk} {F : Nat → Prop} (h : DSt w0 w b d F) (n : Nat) : DSt w0 (w.drewN n) b d F :=
  h.new (below_drewN (Below.refl _ _) n)
theorem DSt.post {w0 w w' : World} {b : Nat} {d d' : Dsk} {F : Nat → Prop} {v : Value} {e : Ending} (h : DSt w0 w b d F) (hp : DiskPost w b F d' v e w') (hok : d'.Ok) : e = .returned v ∧ ∃ F', DSt w0 w' b d' F' ∧ From w F F' ∧ Upd F w w' := by
  obtain ⟨F', he, h1, h2, h3⟩ := hp
  exact ⟨he, F', ⟨hok, h1, h3.ge h.below.size h.ge, h.below.trans (h2.below h.below.size h.ge)⟩, h3, h2⟩
def DP (w0 : World) (b : Nat) (d : Dsk) (v : Value) (e : Ending) (w' : World) : Prop := e = .returned v ∧ ∃ F, DSt w0 w' b d F
theorem raise_st {w0 w : World} {b : Nat} {d : Dsk} {F : Nat → Prop} (h : DSt w0 w b d F) :
    Calls Try.prog 60 #[.pointer (some ⟨b, 0, none⟩)] w (DP w0 b d.raise.1 (.tuple #[.int .i64 d.raise.2.1, .int .i64 d.raise.2.2])) :=
  (raise_any b d F w h.at_ h.ok).mono fun _ _ hp => by obtain ⟨he, F', h1, _⟩ := h.post hp (Dsk.raise_ok h.ok); exact ⟨he, F', h1⟩
theorem append_st {w0 w : World} {b : Nat} {d : Dsk} {F : Nat → Prop} (h : DSt w0 w b d F) (x : Int) (y : Value) (m : List UInt8) (hy : BytesAt w y m) (hm : m.length ≤ 100000) :
    Calls Try.prog 61 #[.pointer (some ⟨b, 0, none⟩), .int .i64 x, y] w (DP w0 b (d.append x m).1 (.int .i64 (d.append x m).2)) :=
  (append_any b d F x y m w h.at_ h.ok hy hm).mono fun _ _ hp => by obtain ⟨he, F', h1, _⟩ := h.post hp (Dsk.append_ok h.ok x m); exact ⟨he, F', h1⟩
theorem cut_st {w0 w : World} {b : Nat} {d : Dsk} {F : Nat → Prop} (h : DSt w0 w b d F) (x n : Int) :
    Calls Try.prog 68 #[.pointer (some ⟨b, 0, none⟩), .int .i64 x, .int .i64 n] w (DP w0 b (d.cut x n).1 (.int .i64 (d.cut x n).2)) :=
  (cut_any b d F x n w h.at_ h.ok).mono fun _ _ hp => by obtain ⟨he, F', h1, _⟩ := h.post hp (Dsk.cut_ok h.ok x n); exact ⟨he, F', h1⟩
theorem dnew_st {w0 w : World} (hb : Below w0.heap.size w0 w) :
    Calls Try.prog 59 #[] w fun e w' => ∃ b F, e = .returned (.pointer (some ⟨b, 0, none⟩)) ∧ DSt w0 w' b Dsk.zero F :=
  (dnew_any w).mono fun _ _ ⟨b, F, he, h1, h2, h3⟩ => ⟨b, F, he, Dsk.zero_ok, h2, fun k hk => Nat.le_trans hb.size (h3 k hk), hb.trans (h1.mono hb.size)⟩

theorem bytesAt_const (w : World) (l : List UInt8) (C : Array Value) (fr : Nat × Nat) (hC : C = (bvs l).toArray) (hl : l.length ≤ 100000) : BytesAt (w.alloc (.cells C 5 fr)) (.slice (some ⟨w.heap.size, 0, none⟩) l.length l.length) l := by
  subst hC
  refine ⟨_, _, rfl, Nat.le_refl _, by simp only [maxLen]; omega, by simp, fun _ => ⟨_, _, rfl, fun j u hj => ?_⟩⟩
  rw [Nat.zero_add, World.cell?_alloc_mark]
  simpa using hj

theorem DSt.drew {w0 w : World} {b : Nat} {d : Dsk} {F : Nat → Prop} (h : DSt w0 w b d F) : DSt w0 w.drew b d F :=
  h.new (Below.drew (Below.refl _ _))
theorem DSt.far {w0 w : World} {b : Nat} {d : Dsk} {F : Nat → Prop} (h : DSt w0 w b d F) : ¬ F w.heap.size := fun hf => Nat.lt_irrefl _ (h.at_.inW _ hf)
/-- The string of bytes that one reads. -/
def strOf (l : List UInt8) : ByteArray := ⟨l.toArray⟩
theorem run_string_bytes {w : World} {v : Value} {l : List UInt8} (h : BytesAt w v l) : (convert 44 9 v).run Try.prog w = .ok (.string (strOf l)) w := by
  obtain ⟨a, c, rfl, h1, h2, h3, h4⟩ := h
  rw [run_convert_bytes_string w 44 9 5 a l.length c Try.underlying44 Try.underlying5 Try.underlying9]
  by_cases hl : l = []
  · subst hl
    cases a with
    | none => rfl
    | some a =>
      exact (run_bytesToString w a 0 c [] (by simp [loadCells, loadCellsFrom])).trans rfl
  · obtain ⟨g, off, rfl, h5⟩ := h4 hl
    have hc : (loadCells ⟨g, off, none⟩ l.length).run Try.prog w = .ok ((l.map fun x => (x.toNat : Int)).map (Value.int .u8)).toArray w := by
      have := run_loadCells_list (P := Try.prog) w ⟨g, off, none⟩ (bvs l) (fun j v hv => by rw [Addr.add_lit]; exact h5 j v hv)
      rw [bvs_length] at this
      rw [this]
      simp [bvs, bv, Function.comp_def]
    rw [run_bytesToString w _ _ c _ hc, foldl_push_bytes]
    simp [strOf, Function.comp_def]

theorem BytesAt.keep {w w' : World} {v : Value} {l : List UInt8} (h : BytesAt w v l) (hb : Below w.heap.size w w') : BytesAt w' v l :=
  h.upd (Upd.of_below hb (fun _ => False)) (fun _ _ h => h)
theorem cell_keep {w w' : World} {a : Addr} {v : Value} (hb : Below w.heap.size w w') (h : w.cell? a = some v) : w'.cell? a = some v :=
  (hb.cell (block_lt_of_cell h)).trans h
end Go.Proofs.Ytfihmpkkpgmdhab
