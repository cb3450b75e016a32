/-
  What the laws on disks share: a disk of the call's own; bytes as a text; the steps that come in.
-/
import Derived.Test.YtfihmpkkpgmdhaaDisk
import Derived.Lib.SlBytesConst
namespace Go.Proofs.Ytfihmpkkpgmdhaa
open Go.RowKit

/-- A disk of the call's own: nothing that was there when the call began is other. -/
structure DSt (w0 w : World) (b : Nat) (d : Dsk) (F : Nat → Prop) : Prop where
  ok : d.Ok
  at_ : DiskAt w b d F
  ge : ∀ k, F k → w0.heap.size ≤ k
  below : Below w0.heap.size w0 w
theorem DSt.upd {G : Nat → Prop} {w0 w w' : World} {b : Nat} {d : Dsk} {F : Nat → Prop} (h : DSt w0 w b d F) (hu : Upd G w w') (hs : Sep F G) (hg : ∀ k, G k → w0.heap.size ≤ k) : DSt w0 w' b d F :=
  ⟨h.ok, h.at_.upd hu hs, h.ge, h.below.trans (hu.below h.below.size hg)⟩
theorem DSt.new {w0 w : World} {b : Nat} {d : Dsk} {F : Nat → Prop} (h : DSt w0 w b d F) {w' : World} (hb : Below w.heap.size w w') : DSt w0 w' b d F :=
  h.upd (Upd.of_below hb (fun _ => False)) (fun _ _ h => h) (fun _ h => h.elim)
theorem DSt.alloc {w0 w : World} {b : Nat} {d : Dsk} {F : Nat → Prop} (h : DSt w0 w b d F) (o : Obj) : DSt w0 (w.alloc o) b d F :=
  h.new ((Below.refl _ _).alloc (Nat.le_refl _) o)
theorem DSt.drewN {w0 w : World} {b : Nat} {d : Dsk} {F : Nat → Prop} (h : DSt w0 w b d F) (n : Nat) : DSt w0 (w.drewN n) b d F :=
  h.new (below_drewN (Below.refl _ _) n)
theorem DSt.post {w0 w w' : World} {b : Nat} {d d' : Dsk} {F : Nat → Prop} {v : Value} {e : Ending} (h : DSt w0 w b d F) (hp : DiskPost w b F d' v e w') (hok : d'.Ok) : e = .returned v ∧ ∃ F', DSt w0 w' b d' F' ∧ From w F F' ∧ Upd F w w' := by
  obtain ⟨F', he, h1, h2, h3⟩ := hp
  exact ⟨he, F', ⟨hok, h1, h3.ge h.below.size h.ge, h.below.trans (h2.below h.below.size h.ge)⟩, h3, h2⟩
def DP (w0 : World) (b : Nat) (d : Dsk) (v : Value) (e : Ending) (w' : World) : Prop := e = .returned v ∧ ∃ F, DSt w0 w' b d F
theorem raise_st {w0 w : World} {b : Nat} {d : Dsk} {F : Nat → Prop} (h : DSt w0 w b d F) :
    Calls Try.prog 16 #[.pointer (some ⟨b, 0, none⟩)] w (DP w0 b d.raise.1 (.tuple #[.int .i64 d.raise.2.1, .int .i64 d.raise.2.2])) :=
  (raise_any b d F w h.at_ h.ok).mono fun _ _ hp => by obtain ⟨he, F', h1, _⟩ := h.post hp (Dsk.raise_ok h.ok); exact ⟨he, F', h1⟩
theorem append_st {w0 w : World} {b : Nat} {d : Dsk} {F : Nat → Prop} (h : DSt w0 w b d F) (x : Int) (y : Value) (m : List UInt8) (hy : BytesAt w y m) (hm : m.length ≤ 100000) :
    Calls Try.prog 18 #[.pointer (some ⟨b, 0, none⟩), .int .i64 x, y] w (DP w0 b (d.append x m).1 (.int .i64 (d.append x m).2)) :=
  (append_any b d F x y m w h.at_ h.ok hy hm).mono fun _ _ hp => by obtain ⟨he, F', h1, _⟩ := h.post hp (Dsk.append_ok h.ok x m); exact ⟨he, F', h1⟩
theorem cut_st {w0 w : World} {b : Nat} {d : Dsk} {F : Nat → Prop} (h : DSt w0 w b d F) (x n : Int) :
    Calls Try.prog 20 #[.pointer (some ⟨b, 0, none⟩), .int .i64 x, .int .i64 n] w (DP w0 b (d.cut x n).1 (.int .i64 (d.cut x n).2)) :=
  (cut_any b d F x n w h.at_ h.ok).mono fun _ _ hp => by obtain ⟨he, F', h1, _⟩ := h.post hp (Dsk.cut_ok h.ok x n); exact ⟨he, F', h1⟩
theorem dnew_st {w0 w : World} (hb : Below w0.heap.size w0 w) :
    Calls Try.prog 15 #[] w fun e w' => ∃ b F, e = .returned (.pointer (some ⟨b, 0, none⟩)) ∧ DSt w0 w' b Dsk.zero F :=
  (dnew_any w).mono fun _ _ ⟨b, F, he, h1, h2, h3⟩ => ⟨b, F, he, Dsk.zero_ok, h2, fun k hk => Nat.le_trans hb.size (h3 k hk), hb.trans (h1.mono hb.size)⟩

theorem bytesAt_const (w : World) (l : List UInt8) (C : Array Value) (fr : Nat × Nat) (hC : C = (bvs l).toArray) (hl : l.length ≤ 100000) : BytesAt (w.alloc (.cells C 5 fr)) (.slice (some ⟨w.heap.size, 0, none⟩) l.length l.length) l := by
  subst hC
  refine ⟨_, _, rfl, Nat.le_refl _, by simp only [maxLen]; omega, by simp, fun _ => ⟨_, _, rfl, fun j u hj => ?_⟩⟩
  rw [Nat.zero_add, World.cell?_alloc_mark]
  simpa using hj

theorem DSt.drew {w0 w : World} {b : Nat} {d : Dsk} {F : Nat → Prop} (h : DSt w0 w b d F) : DSt w0 w.drew b d F :=
  h.new (Below.drew (Below.refl _ _))
theorem DSt.far {w0 w : World} {b : Nat} {d : Dsk} {F : Nat → Prop} (h : DSt w0 w b d F) : ¬ F w.heap.size := fun hf => Nat.lt_irrefl _ (h.at_.inW _ hf)
/-- The string of bytes that one reads. -/
def strOf (l : List UInt8) : ByteArray := ⟨l.toArray⟩
theorem run_string_bytes {w : World} {v : Value} {l : List UInt8} (h : BytesAt w v l) : (convert 28 9 v).run Try.prog w = .ok (.string (strOf l)) w := by
  obtain ⟨a, c, rfl, h1, h2, h3, h4⟩ := h
  rw [run_convert_bytes_string w 28 9 5 a l.length c Try.underlying28 Try.underlying5 Try.underlying9]
  by_cases hl : l = []
  · subst hl
    cases a with
    | none => rfl
    | some a =>
      exact (run_bytesToString w a 0 c [] (by simp [loadCells, loadCellsFrom])).trans rfl
  · obtain ⟨g, off, rfl, h5⟩ := h4 hl
    have hc : (loadCells ⟨g, off, none⟩ l.length).run Try.prog w = .ok ((l.map fun x => (x.toNat : Int)).map (Value.int .u8)).toArray w := by
      have := run_loadCells_list (P := Try.prog) w ⟨g, off, none⟩ (bvs l) (fun j v hv => by rw [Addr.add_lit]; exact h5 j v hv)
      rw [bvs_length] at this
      rw [this]
      simp [bvs, bv, Function.comp_def]
    rw [run_bytesToString w _ _ c _ hc, foldl_push_bytes]
    simp [strOf, Function.comp_def]

theorem z1 : Dsk.zero.append 0 [120] = (Dsk.zero, 9) := by simp [Dsk.append, Dsk.zero]
theorem z2 : Dsk.zero.raise = (⟨1, []⟩, 1, 0) := by simp [Dsk.raise, Dsk.zero]
theorem z3 : (⟨1, []⟩ : Dsk).append 1 [120, 121, 122] = (⟨1, [120, 121, 122]⟩, 0) := by simp [Dsk.append]
theorem z4 : (⟨1, [120, 121, 122]⟩ : Dsk).raise = (⟨2, [120, 121, 122]⟩, 2, 0) := by simp [Dsk.raise]
theorem z5 : (⟨2, [120, 121, 122]⟩ : Dsk).append 1 [117] = (⟨2, [120, 121, 122]⟩, 9) := by simp [Dsk.append]
theorem z6 : (⟨2, [120, 121, 122]⟩ : Dsk).cut 2 2 = (⟨2, [120, 121]⟩, 0) := by simp [Dsk.cut]

set_option maxHeartbeats 1000000 in
theorem diskBegun_any (w : World) : Calls Try.prog 13 #[] w fun e w' => e = .returned (.bool true) ∧ Below w.heap.size w w' := by
  have kc := fun (w : World) (C : Array Value) (n c : Nat) => Lib.run_convert_bytes_const (P := Try.prog) w 28 5 C n c Try.underlying28 Try.underlying5
  go_enter Try.func13, Try.ntmps13
  go_wp2_with fail
  refine (dnew_st (Below.refl w.heap.size w)).mono ?_
  rintro e w1 ⟨b, F, rfl, h1⟩
  have H1 := Lib.hid h1; clear h1
  go_wp2_with fail
  refine (append_st (H1.out.alloc _) 0 _ [120] (bytesAt_const _ _ _ _ rfl (by simp)) (by simp)).mono ?_
  rw [z1]
  rintro e w2 ⟨rfl, F2, h2⟩
  have H2 := Lib.hid h2; clear h2
  go_wp2_with fail
  refine (raise_st H2.out).mono ?_
  rw [z2]
  rintro e w3 ⟨rfl, F3, h3⟩
  have H3 := Lib.hid h3; clear h3
  go_wp2_with fail
  refine (append_st (H3.out.alloc _) 1 _ [120, 121, 122] (bytesAt_const _ _ _ _ rfl (by simp)) (by simp)).mono ?_
  rw [z3]
  rintro e w4 ⟨rfl, F4, h4⟩
  have H4 := Lib.hid h4; clear h4
  go_wp2_with fail
  refine (raise_st H4.out).mono ?_
  rw [z4]
  rintro e w5 ⟨rfl, F5, h5⟩
  have H5 := Lib.hid h5; clear h5
  go_wp2_with fail
  refine (append_st (H5.out.alloc _) 1 _ [117] (bytesAt_const _ _ _ _ rfl (by simp)) (by simp)).mono ?_
  rw [z5]
  rintro e w6 ⟨rfl, F6, h6⟩
  have H6 := Lib.hid h6; clear h6
  go_wp2_with fail
  refine (cut_st H6.out 2 2).mono ?_
  rw [z6]
  rintro e w7 ⟨rfl, F7, h7⟩
  have H7 := Lib.hid h7; clear h7
  go_wp2_with fail
  refine (bytes_any b _ F7 _ H7.out.at_ H7.out.ok).mono ?_
  rintro e w8 ⟨v, rfl, h8, h9, h10⟩
  have hs := run_string_bytes h8.bytes
  rw [show strOf [120, 121] = ⟨#[120, 121]⟩ from rfl] at hs
  obtain ⟨va, vc, rfl, _⟩ : ∃ a c, v = .slice a 2 c ∧ True := by obtain ⟨a, c, h, _⟩ := h8.bytes; exact ⟨a, c, h, trivial⟩
  have H8 := Lib.hid (H7.out.new h9)
  clear h8 h9 h10
  go_wp2_with fail
  refine (epoch_any b _ F7 _ H8.out.at_).mono ?_
  rintro e w9 ⟨rfl, rfl⟩
  go_wp2
  go_ret
  exact ⟨rfl, H8.out.below⟩

/-- One step as the caller laid it: three numbers; a slice that reads as bytes. -/
structure DStep where
  (op ep n : Int)
  v : Value
  b : List UInt8
def I64 (n : Int) : Prop := -9223372036854775808 ≤ n ∧ n ≤ 9223372036854775807
def StepsAt (w : World) (v : Value) (L : List DStep) : Prop :=
  ∃ a c, v = .slice a L.length c ∧ L.length ≤ maxLen ∧
    ∀ i x, L[i]? = some x → BytesAt w x.v x.b ∧ I64 x.op ∧ I64 x.ep ∧ I64 x.n ∧ ∃ g off, a = some ⟨g, off, none⟩ ∧
      w.cell? ⟨g, off + i * 4, none⟩ = some (.int .i64 x.op) ∧ w.cell? ⟨g, off + i * 4 + 1, none⟩ = some (.int .i64 x.ep) ∧
      w.cell? ⟨g, off + i * 4 + 2, none⟩ = some (.int .i64 x.n) ∧ w.cell? ⟨g, off + i * 4 + 3, none⟩ = some x.v
theorem BytesAt.keep {w w' : World} {v : Value} {l : List UInt8} (h : BytesAt w v l) (hb : Below w.heap.size w w') : BytesAt w' v l :=
  h.upd (Upd.of_below hb (fun _ => False)) (fun _ _ h => h)
theorem cell_keep {w w' : World} {a : Addr} {v : Value} (hb : Below w.heap.size w w') (h : w.cell? a = some v) : w'.cell? a = some v :=
  (hb.cell (block_lt_of_cell h)).trans h
theorem StepsAt.keep {w w' : World} {v : Value} {L : List DStep} (h : StepsAt w v L) (hb : Below w.heap.size w w') : StepsAt w' v L := by
  obtain ⟨a, c, rfl, h1, h2⟩ := h
  refine ⟨a, c, rfl, h1, fun i x hx => ?_⟩
  obtain ⟨h3, h4, h5, h6, g, off, h7, c0, c1, c2, c3⟩ := h2 i x hx
  exact ⟨h3.keep hb, h4, h5, h6, g, off, h7, cell_keep hb c0, cell_keep hb c1, cell_keep hb c2, cell_keep hb c3⟩

theorem StepsAt.shape {w : World} {v : Value} {L : List DStep} (h : StepsAt w v L) : ∃ a c, v = .slice a L.length c ∧ L.length ≤ 9223372036854775807 := by
  obtain ⟨a, c, rfl, h1, _⟩ := h
  exact ⟨a, c, rfl, by unfold maxLen at h1; omega⟩
theorem StepsAt.get {w : World} {a : Option Addr} {n c : Nat} {L : List DStep} (h : StepsAt w (.slice a n c) L) {i : Nat} {x : DStep} (hx : L[i]? = some x) : ∃ g off, a = some ⟨g, off, none⟩ ∧ BytesAt w x.v x.b ∧ I64 x.op ∧ I64 x.ep ∧ I64 x.n ∧
      w.cell? ⟨g, off + i * 4, none⟩ = some (.int .i64 x.op) ∧ w.cell? ⟨g, off + i * 4 + 1, none⟩ = some (.int .i64 x.ep) ∧
      w.cell? ⟨g, off + i * 4 + 2, none⟩ = some (.int .i64 x.n) ∧ w.cell? ⟨g, off + i * 4 + 3, none⟩ = some x.v := by
  obtain ⟨a', c', e, _, h2⟩ := h
  simp only [Value.slice.injEq] at e
  obtain ⟨rfl, _, rfl⟩ := e
  obtain ⟨h3, h4, h5, h6, g, off, h7, h8⟩ := h2 i x hx
  exact ⟨g, off, h7, h3, h4, h5, h6, h8⟩


def GreatPost (w : World) (L : List DStep) (e : Ending) (w' : World) : Prop :=
  ∃ r, e = .returned (.bool r) ∧ w = w' ∧ (r = false → L.length ≤ 150 ∧ ∀ x ∈ L, x.b.length ≤ 2000)
set_option maxRecDepth 100000 in
set_option maxHeartbeats 1000000 in
theorem greatDisk_any (v : Value) (L : List DStep) (w : World) (h : StepsAt w v L) :
    Calls Try.prog 14 #[v] w (GreatPost w L) := by
  obtain ⟨a, c, rfl, h1, h2⟩ := h
  have H2 := Lib.hid h2; clear h2
  unfold maxLen at h1
  go_enter Try.func14, Try.ntmps14
  go_wp2
  go_loop [3] (fun i => ∃ k : Nat, k ≤ L.length ∧ i = .int .i64 k ∧ Hid (∀ i x, i < k → L[i]? = some x → x.b.length ≤ 2000)) (fun i => L.length - (intOf i).toNat)
  case atStart => exact ⟨0, by omega, rfl, fun _ _ h => by omega⟩
  case round =>
    obtain ⟨k, hk, rfl, hp⟩ := hrel
    by_cases h3 : k < L.length
    · by_cases h4 : k < 200
      · obtain ⟨x, hx⟩ : ∃ x, L[k]? = some x := ⟨_, List.getElem?_eq_getElem h3⟩
        obtain ⟨hb, _, _, _, g, off, rfl, c0, c1, c2, c3⟩ := H2.out k x hx
        obtain ⟨va, vc, hv, _⟩ := hb
        rw [hv] at c3
        have HX := Lib.hid hx
        clear hx hv c0 c1 c2
        by_cases h5 : 2000 < x.b.length
        · go_wp2
          go_ret
          exact ⟨true, rfl, rfl, by simp⟩
        · go_wp2
          go_round
          case rel => exact ⟨k + 1, by omega, by go_num, fun i y hi hx => by
            by_cases e : i = k
            · have h6 : some y = some x := by rw [← hx, e]; exact HX.out
              cases h6
              omega
            · exact hp.out i y (by omega) hx⟩
          case measure => simp [intOf]; omega
      · have h5 : 150 < L.length := by omega
        go_wp2
        go_ret
        exact ⟨true, by simp; omega, rfl, by simp⟩
    · obtain rfl : k = L.length := by omega
      by_cases h5 : 150 < L.length
      · go_wp2
        go_ret
        exact ⟨true, by simp; omega, rfl, by simp⟩
      · go_wp2
        go_ret
        exact ⟨false, by simp; omega, rfl, fun _ => ⟨by omega, fun x hx => by
          obtain ⟨i, hi, rfl⟩ := List.mem_iff_getElem.1 hx
          exact hp.out i _ hi (List.getElem?_eq_getElem hi)⟩⟩
end Go.Proofs.Ytfihmpkkpgmdhaa

