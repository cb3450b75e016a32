/-
  Contracts: the package jobs, walked: Do.
-/
import Derived.Test.YtfihmpkkpgmdhabJobs2
namespace Go.Proofs.Ytfihmpkkpgmdhab
open Go.RowKit

set_option maxHeartbeats 2000000 in
theorem do_no (b : Nat) (tb : Tbl) (c n j t k m : Int) (w : World) (h : TableAt w b tb) (ho : chk ⟨c, n, j, t, k, m⟩ ≠ 0) :
    Calls Try.prog 19 #[.pointer (some ⟨b, 0, none⟩), .agg #[.int .i64 c, .int .i64 n, .int .i64 j, .int .i64 t, .int .i64 k, .int .i64 m]] w (AnsPost w b (tb.did ⟨c, n, j, t, k, m⟩)) := by
  rw [did_no ho]
  generalize hC : chk ⟨c, n, j, t, k, m⟩ = C at *
  have HC := Lib.hid hC; clear hC
  have hc1 : (C != 0) = true := by simpa using ho
  clear ho
  have hlt := h.lt
  have H := Lib.hid h; clear h
  go_enter Try.func19, Try.ntmps19
  go_wp2_with fail
  refine (check_any c n j t k m _).mono ?_
  rw [HC.out]
  rintro e w' ⟨rfl, hb⟩
  have hx := (BlockAt.new (w.alloc (.cells #[.int .i64 c, .int .i64 n, .int .i64 j, .int .i64 t, .int .i64 k, .int .i64 m] 35)) 32 [.int .i64 0, .int .i64 0, .int .i64 0]).below hb (by simp)
  simp only [World.size_alloc] at hx
  have k1 := hx.cells
  have k2 := hx.frees
  have HB := Lib.hid hb; clear hb
  have HX := Lib.hid hx; clear hx
  go_wp2
  refine bodyPost_ret (v := .agg #[.int .i64 C, .int .i64 0, .int .i64 0]) (by simp [results, Try.results19, go_sem, k1]) rfl ⟨rfl, ?_, ?_⟩
  · have h1 := grown_then (grown_alloc (grown_alloc (grown_refl w (some b)) _) _) (below_grown HB.out _) (.inl rfl)
    repeat (first | with_reducible exact h1 | refine grown_setNew ?_ (by simp) _)
  · unfold TableAt
    refine BlockAt.setOther (BlockAt.setOther (BlockAt.setOther ?_ (by simp; omega) _) (by simp; omega) _) (by simp; omega) _
    exact ((BlockAt.alloc H.out _).alloc _).below HB.out (by simp; omega)

/-- What stands, on the way through Do, behind the copy of the table. -/
structure DoAt (w W : World) (b y : Nat) (tb t2 : Tbl) (o : Ord) : Prop where
  x0 : BlockAt W w.heap.size 35 [.int .i64 o.kind, .int .i64 o.now, .int .i64 o.job, .int .i64 o.tr, .int .i64 o.wk, .int .i64 o.tm]
  x1 : BlockAt W (w.heap.size + 1) 32 [.int .i64 0, .int .i64 0, .int .i64 0]
  x6 : BlockAt W y 103 (tcells tb)
  l6 : w.heap.size + 1 < y
  t : TableAt W b t2
  lt : b < w.heap.size
  g : w.grownBy W (some b)
theorem DoAt.step {w W W' : World} {b y : Nat} {tb t2 t3 : Tbl} {o : Ord} (h : DoAt w W b y tb t2 o) (hg : W.grownBy W' (some b)) (ht : TableAt W' b t3) : DoAt w W' b y tb t3 o :=
  have hlt := h.lt
  have l6 := h.l6
  ⟨h.x0.other hg (by simp; omega), h.x1.other hg (by simp; omega), h.x6.other hg (by simp; omega), h.l6, ht, h.lt, grown_then h.g hg (.inl rfl)⟩

set_option maxHeartbeats 2000000 in
theorem do_yes (b : Nat) (tb : Tbl) (c n j t k m : Int) (w : World) (h : TableAt w b tb) (hok : tb.Ok) (ho : chk ⟨c, n, j, t, k, m⟩ = 0) :
    Calls Try.prog 19 #[.pointer (some ⟨b, 0, none⟩), .agg #[.int .i64 c, .int .i64 n, .int .i64 j, .int .i64 t, .int .i64 k, .int .i64 m]] w (AnsPost w b (tb.did ⟨c, n, j, t, k, m⟩)) := by
  rw [did_yes ho]
  have hpk := pass_ok hok (chk_now ho).2
  generalize hX : (tb.pass n).act ⟨c, n, j, t, k, m⟩ = X at *
  obtain ⟨Z, hZ⟩ : ∃ Z, (if X.2.code ≠ 0 then (tb, X.2) else X) = Z := ⟨_, rfl⟩
  rw [hZ]
  have HZ := Lib.hid hZ; clear hZ
  have HC := Lib.hid ho
  have HP := Lib.hid hpk; clear hpk
  have HYtfihmpkkpgmdhab := Lib.hid hX; clear hX
  have hlt := h.lt
  have H := Lib.hid h; clear h
  clear ho hok
  go_enter Try.func19, Try.ntmps19
  go_wp2_with fail
  refine (check_any c n j t k m _).mono ?_
  rw [HC.out]
  rintro e w1 ⟨rfl, hb1⟩
  have x0 := (BlockAt.alloc (BlockAt.new w 35 [.int .i64 c, .int .i64 n, .int .i64 j, .int .i64 t, .int .i64 k, .int .i64 m]) (.cells #[.int .i64 0, .int .i64 0, .int .i64 0] 32)).below hb1 (by simp <;> omega)
  have x1 := (BlockAt.new (w.alloc (.cells #[.int .i64 c, .int .i64 n, .int .i64 j, .int .i64 t, .int .i64 k, .int .i64 m] 35)) 32 [.int .i64 0, .int .i64 0, .int .i64 0]).below hb1 (by simp)
  simp only [World.size_alloc] at x1
  have xt := ((BlockAt.alloc H.out _).alloc _).below hb1 (by simp; omega)
  have g1 := grown_below (grown_alloc (grown_alloc (grown_refl w (some b)) _) _) hb1
  have hs1 := g1.size
  have l1 := x1.lt
  clear hb1
  have X0 := Lib.hid x0; have X1 := Lib.hid x1; have XT := Lib.hid xt; have G1 := Lib.hid g1; clear x0 x1 xt g1
  go_wp2_with (first | (refine wpList_load_whole rfl 103 _ rfl b rfl (tcells tb) XT.out Try.underlying103 rfl (by kernel_rfl) ?_) | (refine wpList_store_whole rfl 103 _ _ rfl w1.heap.size (tcells tb) rfl rfl (BlockAt.new w1 103 (tcells Tbl.zero)) (by simp [tcells_len]) (by kernel_rfl) (tcells_ones tb) ?_; intro w2 x6 g2 z2; have D : DoAt w w2 b w1.heap.size tb tb ⟨c, n, j, t, k, m⟩ := ⟨(BlockAt.alloc X0.out _).other g2 (by simp; omega), (BlockAt.alloc X1.out _).other g2 (by simp; omega), x6, by omega, (BlockAt.alloc XT.out _).other g2 (by simp; omega), hlt, grown_far (grown_alloc G1.out _) g2 (by omega)⟩; have k0 := D.x0.cells; have HD := Lib.hid D; clear D x6 g2 z2))
  refine (pass_any b tb _ _ HD.out.t).mono ?_
  rintro e w3 ⟨rfl, g3, t3⟩
  have D := HD.out.step g3 t3
  clear k0 g3 t3 HD
  have k0 := D.x0.cells
  have HD := Lib.hid D; clear D
  go_wp2_with fail
  refine (act_any b (tb.pass n) ⟨c, n, j, t, k, m⟩ _ HD.out.t HP.out HC.out).mono ?_
  rw [HYtfihmpkkpgmdhab.out]
  rintro e w4 ⟨rfl, g4, t4⟩
  have D := HD.out.step g4 t4
  clear k0 g4 t4 HD
  have hs4 := D.g.size
  have k1 := D.x1.cells
  have f1 := D.x1.frees
  have l1 := D.x1.lt
  have lx := D.x6.lt
  have HD := Lib.hid D; clear D
  by_cases hx : X.2.code = 0
  · have hx1 : (X.2.code != 0) = false := by simpa using hx
    have e : Z = X := by rw [← HZ.out]; simp [hx]
    subst e
    clear hx
    go_wp2
    refine bodyPost_ret (v := .agg #[.int .i64 Z.2.code, .int .i64 Z.2.job, .int .i64 Z.2.tr]) (by simp [results, Try.results19, go_sem, k1, l1]) rfl ⟨rfl, ?_, ?_⟩
    · repeat (first | with_reducible exact HD.out.g | with_reducible refine grown_alloc ?_ _ | refine grown_setNew ?_ (by simp) _)
    · unfold TableAt
      repeat (first | with_reducible exact HD.out.t | with_reducible refine BlockAt.alloc ?_ _ | refine BlockAt.setOther ?_ (by simp; omega) _)
      exact HD.out.t
  · have hx1 : (X.2.code != 0) = true := by simpa using hx
    have e : Z = (tb, X.2) := by rw [← HZ.out]; simp [hx]
    subst e
    clear hx
    go_wp2_with (first | (refine wpList_load_whole rfl 103 _ rfl w1.heap.size rfl (tcells tb) (BlockAt.alloc HD.out.x6 _) Try.underlying103 rfl (by kernel_rfl) ?_) | (refine wpList_store_whole rfl 103 _ _ rfl b (tcells tb) rfl rfl (BlockAt.alloc HD.out.t _) (by simp [tcells_len]) (by kernel_rfl) (tcells_ones tb) ?_; intro w5 t5 g5 z5; have k1 := (BlockAt.other (BlockAt.alloc HD.out.x1 _) g5 (by simp; omega)).cells; have f1 := (BlockAt.other (BlockAt.alloc HD.out.x1 _) g5 (by simp; omega)).frees; have k7 := (BlockAt.other (BlockAt.new w4 32 [.int .i64 X.2.code, .int .i64 X.2.job, .int .i64 X.2.tr]) g5 (by simp; omega)).cells; have G5 := Lib.hid (grown_then (grown_alloc HD.out.g _) g5 (.inl rfl)); have T5 := Lib.hid t5; simp only [World.size_alloc] at z5; clear g5 t5))
    refine bodyPost_ret (v := .agg #[.int .i64 X.2.code, .int .i64 X.2.job, .int .i64 X.2.tr]) (by simp [results, Try.results19, go_sem, k1]) rfl ⟨rfl, ?_, ?_⟩
    · repeat (first | with_reducible exact G5.out | with_reducible refine grown_alloc ?_ _ | refine grown_setNew ?_ (by simp) _)
    · unfold TableAt
      repeat (first | with_reducible exact T5.out | with_reducible refine BlockAt.alloc ?_ _ | refine BlockAt.setOther ?_ (by simp; omega) _)

/-- Do: what it answers, and the table behind it. -/
theorem do_any (b : Nat) (tb : Tbl) (c n j t k m : Int) (w : World) (h : TableAt w b tb) (hok : tb.Ok) :
    Calls Try.prog 19 #[.pointer (some ⟨b, 0, none⟩), .agg #[.int .i64 c, .int .i64 n, .int .i64 j, .int .i64 t, .int .i64 k, .int .i64 m]] w (AnsPost w b (tb.did ⟨c, n, j, t, k, m⟩)) := by
  by_cases ho : chk ⟨c, n, j, t, k, m⟩ = 0
  · exact do_yes b tb c n j t k m w h hok ho
  · exact do_no b tb c n j t k m w h ho

end Go.Proofs.Ytfihmpkkpgmdhab
