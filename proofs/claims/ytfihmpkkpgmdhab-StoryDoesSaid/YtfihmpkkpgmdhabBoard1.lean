/-
  The document's board, walked: later, Job.
-/
import Derived.Test.YtfihmpkkpgmdhabSlices
import Derived.Test.YtfihmpkkpgmdhabJobs3
import Derived.Test.YtfihmpkkpgmdhabPlainM
import Derived.Test.YtfihmpkkpgmdhabLex
namespace Go.Proofs.Ytfihmpkkpgmdhab
set_option linter.unusedSimpArgs false
set_option linter.unusedVariables false
open Go.RowKit

/-- A block that reads as a table. -/
def tb (b : Nat) (ty : TypeId) (t : Tbl) : HP := bl b ty (tcells t)
theorem Holds.setJob {w : World} {b : Nat} {ty : TypeId} {t : Tbl} {A : HP} (h : Holds w (tb b ty t * A)) {k : Nat} (hk : k < 6) (j : Job) :
    Holds ((((w.setCell ⟨b, k * 4, none⟩ (.int .i64 j.st)).setCell ⟨b, k * 4 + 1, none⟩ (.int .i64 j.wk)).setCell ⟨b, k * 4 + 2, none⟩ (.int .i64 j.tr)).setCell ⟨b, k * 4 + 3, none⟩ (.int .i64 j.un)) (tb b ty (t.set k j) * A) := by
  unfold tb
  rw [← tcells_set t k hk j, Nat.mul_comm k 4]
  exact (((h.setB _ _).setB _ _).setB _ _).setB _ _
theorem tcells_st (t : Tbl) (i : Nat) (hi : i < 6) (j : Job) (s : Int) : (tcells (t.set i j)).set (4 * i) (.int .i64 s) = tcells (t.set i { j with st := s }) := by
  match i, hi with
  | 0, _ | 1, _ | 2, _ | 3, _ | 4, _ | 5, _ => rfl
theorem Holds.setStN {w : World} {b : Nat} {ty : TypeId} {t : Tbl} {A : HP} {k : Nat} {j : Job} (h : Holds w (tb b ty (t.set k j) * A)) (hk : k < 6) (s : Int) :
    Holds (w.setCell ⟨b, k * 4, none⟩ (.int .i64 s)) (tb b ty (t.set k { j with st := s }) * A) := by
  unfold tb
  rw [← tcells_st t k hk j s, Nat.mul_comm k 4]
  exact h.setB _ _
theorem Holds.setUnN {w : World} {b : Nat} {ty : TypeId} {t : Tbl} {A : HP} {k : Nat} (h : Holds w (tb b ty t * A)) (hk : k < 6) (u : Int) :
    Holds (w.setCell ⟨b, k * 4 + 3, none⟩ (.int .i64 u)) (tb b ty (t.set k { t.jobs k with un := u }) * A) := by
  unfold tb
  rw [← tcells_setUn t k hk u, Nat.mul_comm k 4]
  exact h.setB _ _
theorem Holds.setNowN {w : World} {b : Nat} {ty : TypeId} {t : Tbl} {A : HP} (h : Holds w (tb b ty t * A)) (n : Int) :
    Holds (w.setCell ⟨b, 24, none⟩ (.int .i64 n)) (tb b ty ⟨t.jobs, n⟩ * A) := by
  unfold tb
  rw [← tcells_setNow t n]
  exact h.setB _ _
theorem Holds.tb {w : World} {b : Nat} {ty : TypeId} {t : Tbl} {A : HP} (h : Holds w (tb b ty t * A)) : BlockAt w b ty (tcells t) := h.bl
/-- The four cells of job k. -/
theorem BlockAt.job {w : World} {b : Nat} {ty : TypeId} {t : Tbl} (h : BlockAt w b ty (tcells t)) {k : Nat} (hk : k < 6) :
    w.cell? ⟨b, k * 4, none⟩ = some (.int .i64 (t.jobs k).st) ∧ w.cell? ⟨b, k * 4 + 1, none⟩ = some (.int .i64 (t.jobs k).wk) ∧
    w.cell? ⟨b, k * 4 + 2, none⟩ = some (.int .i64 (t.jobs k).tr) ∧ w.cell? ⟨b, k * 4 + 3, none⟩ = some (.int .i64 (t.jobs k).un) := by
  rw [Nat.mul_comm]
  obtain ⟨a, b, c, d⟩ := tcells_job t k hk
  exact ⟨h.cell _ _ a, h.cell _ _ b, h.cell _ _ c, h.cell _ _ d⟩
theorem Holds.congrT {w : World} {b : Nat} {ty : TypeId} {t u : Tbl} {A : HP} (h : Holds w (Go.Proofs.Ytfihmpkkpgmdhab.tb b ty t * A)) (hj : ∀ i, i < 6 → t.jobs i = u.jobs i) (hn : t.now = u.now) : Holds w (Go.Proofs.Ytfihmpkkpgmdhab.tb b ty u * A) := by
  unfold Go.Proofs.Ytfihmpkkpgmdhab.tb at *
  rwa [← tcells_congr hj hn]
theorem Holds.passSet {w : World} {b : Nat} {ty : TypeId} {t : Tbl} {m : Int} {k : Nat} {A : HP} (h : Holds w (Go.Proofs.Ytfihmpkkpgmdhab.tb b ty ((passTo t m k).set k (expire m (t.jobs k))) * A)) : Holds w (Go.Proofs.Ytfihmpkkpgmdhab.tb b ty (passTo t m (k + 1)) * A) := by
  refine h.congrT (fun i _ => ?_) rfl
  simp only [passTo, Tbl.set]
  by_cases h1 : i < k
  · simp [h1, Nat.lt_succ_of_lt h1, show ¬ i = k by omega]
  · by_cases h2 : i = k
    · subst h2; simp
    · simp [h1, h2, show ¬ i < k + 1 by omega]
theorem Holds.passKeep {w : World} {b : Nat} {ty : TypeId} {t : Tbl} {m : Int} {k : Nat} {A : HP} (h : Holds w (Go.Proofs.Ytfihmpkkpgmdhab.tb b ty (passTo t m k) * A)) (he : expire m (t.jobs k) = t.jobs k) : Holds w (Go.Proofs.Ytfihmpkkpgmdhab.tb b ty (passTo t m (k + 1)) * A) := by
  refine h.congrT (fun i _ => ?_) rfl
  simp only [passTo]
  by_cases h1 : i < k
  · simp [h1, Nat.lt_succ_of_lt h1]
  · by_cases h2 : i = k
    · subst h2; simp [he]
    · simp [h1, show ¬ i < k + 1 by omega]
theorem Holds.passEnd {w : World} {b : Nat} {ty : TypeId} {t : Tbl} {n : Int} {A : HP} (h : Holds w (Go.Proofs.Ytfihmpkkpgmdhab.tb b ty (passTo t (max t.now n) 6) * A)) : Holds w (Go.Proofs.Ytfihmpkkpgmdhab.tb b ty (t.pass n) * A) := by
  refine h.congrT (fun i hi => ?_) rfl
  simp [passTo, Tbl.pass, hi]
theorem Holds.passStart {w : World} {b : Nat} {ty : TypeId} {t : Tbl} {A : HP} (h : Holds w (Go.Proofs.Ytfihmpkkpgmdhab.tb b ty t * A)) : Holds w (Go.Proofs.Ytfihmpkkpgmdhab.tb b ty (passTo t t.now 0) * A) :=
  h.congrT (fun i _ => by simp [passTo]) rfl

theorem results_cell1 {P : Program} {fn : Func} {tmps : Array Value} {w : World} {a : Nat} {t : TypeId} {ad : Addr} {v : Value} (hr : fn.results = #[.cell a t]) (ha : tmps.getD a undef = .pointer (some ad)) (hl : (loadVar t ad).run P w = .ok v w) : (results fn tmps).run P w = .ok v w := by
  have h1 : (asAddr (.pointer (some ad))).run P w = .ok ad w := rfl
  have ha' : tmps[a]?.getD undef = .pointer (some ad) := by simpa using ha
  unfold results
  rw [hr]
  simp [Sem.run_bind, ha', h1, hl]
theorem results_cell2 {P : Program} {fn : Func} {tmps : Array Value} {w : World} {a b : Nat} {t u : TypeId} {ad bd : Addr} {v x : Value} (hr : fn.results = #[.cell a t, .cell b u]) (ha : tmps.getD a undef = .pointer (some ad)) (hb : tmps.getD b undef = .pointer (some bd)) (hl : (loadVar t ad).run P w = .ok v w) (hk : (loadVar u bd).run P w = .ok x w) : (results fn tmps).run P w = .ok (.tuple #[v, x]) w := by
  have h1 : (asAddr (.pointer (some ad))).run P w = .ok ad w := rfl
  have h2 : (asAddr (.pointer (some bd))).run P w = .ok bd w := rfl
  have ha' : tmps[a]?.getD undef = .pointer (some ad) := by simpa using ha
  have hb' : tmps[b]?.getD undef = .pointer (some bd) := by simpa using hb
  unfold results
  rw [hr]
  simp [Sem.run_bind, ha', hb', h1, h2, hl, hk]
set_option maxRecDepth 100000 in
set_option maxHeartbeats 4000000 in
theorem later_any (t : Tbl) (n : Int) (w : World) :
    Calls Try.prog 78 #[.agg (tcells t).toArray, .int .i64 n] w fun e w' => e = .returned (.agg (tcells (t.pass n)).toArray) ∧ Below w.heap.size w w' := by
  have h1 := fun T : Tbl => (((Holds.old (w := w)).boxB (ty := 41) (cs := tcells T) rfl).boxB (ty := 41) (cs := tcells Tbl.zero) (g := w.heap.size + 1) (by simp)).two
  have H1 := Lib.hid h1; clear h1
  have q1 := fun T : Tbl => ((Quiet.refl w).alloc (.cells (tcells T).toArray 41)).alloc (.cells (tcells Tbl.zero).toArray 41)
  have Q1 := Lib.hid q1; clear q1
  have h24 : (tcells t)[24]? = some (.int .i64 t.now) := rfl
  obtain ⟨m, hm, hcase⟩ : ∃ m, Hid (m = max t.now n) ∧ (t.now < n ∧ n = m ∨ n ≤ t.now ∧ t.now = m) := ⟨_, rfl, by omega⟩
  rcases hcase with ⟨hlt0, hmm⟩ | ⟨hlt0, hmm⟩
  all_goals
    have HMM := Lib.hid hmm; clear hmm
    go_enter Try.func78, Try.ntmps78
    go_wp2
    go_loopw [5, 6] (fun i _ wr => ∃ k : Nat, k ≤ 6 ∧ i = .int .i64 k ∧ Holds wr (tb w.heap.size 41 (passTo t (max t.now n) k) * (bl (w.heap.size + 1) 41 (tcells Tbl.zero) * old w)) ∧ Quiet w wr) (fun i _ _ => 6 - (intOf i).toNat)
    case atStart =>
      first
      | exact ⟨0, by omega, rfl, by have := H1.out ⟨t.jobs, n⟩; exact Holds.congrT this (fun i _ => by simp [passTo]) (by have := hm.out; have := HMM.out; simp only [passTo]; omega), Q1.out ⟨t.jobs, n⟩⟩
      | exact ⟨0, by omega, rfl, by have := H1.out t; exact Holds.congrT this (fun i _ => by simp [passTo]) (by have := hm.out; have := HMM.out; simp only [passTo]; omega), Q1.out t⟩
    case round =>
      clear hlt0
      obtain ⟨k, hk, rfl, hh, hq⟩ := hrel
      rw [← hm.out] at hh
      by_cases hlt : k < 6
      · obtain ⟨c0, c1, c2, c3⟩ := hh.tb.job hlt
        have c24 := hh.tb.cell 24 _ rfl
        simp only [passTo, Nat.lt_irrefl, if_false] at c0 c1 c2 c3 c24
        have hf := hh.tb.frees
        have l0 := hh.tb.lt
        have HH := Lib.hid hh; have HQ := Lib.hid hq; clear hh hq
        by_cases hs : (t.jobs k).st = 2
        · have hs1 : ((t.jobs k).st == 2) = true := by simpa using hs
          have HS := Lib.hid hs; clear hs
          by_cases hu : (t.jobs k).un ≤ m
          · by_cases h3 : 3 ≤ (t.jobs k).tr
            · go_wp2
              go_roundw
              case rel => exact ⟨k + 1, by omega, by go_num, by rw [← hm.out]; refine Holds.passSet ?_; rw [expire, if_pos ⟨HS.out, hu⟩, if_pos h3]; exact ((HH.out.setJob hlt ⟨1, 0, (t.jobs k).tr, 0⟩).setStN hlt 4).alloc _, ((((((HQ.out).setCell _ _).setCell _ _).setCell _ _).setCell _ _).setCell _ _).alloc _⟩
              case measure => simp [intOf]; omega
            · go_wp2
              go_roundw
              case rel => exact ⟨k + 1, by omega, by go_num, by rw [← hm.out]; refine Holds.passSet ?_; rw [expire, if_pos ⟨HS.out, hu⟩, if_neg (by omega)]; exact (HH.out.setJob hlt ⟨1, 0, (t.jobs k).tr, 0⟩).alloc _, ((((HQ.out.setCell _ _).setCell _ _).setCell _ _).setCell _ _).alloc _⟩
              case measure => simp [intOf]; omega
          · go_wp2
            go_roundw
            case rel => exact ⟨k + 1, by omega, by go_num, by rw [← hm.out]; exact (HH.out.alloc _).passKeep (by rw [expire, if_neg (fun h => absurd h.2 (by omega))]), HQ.out.alloc _⟩
            case measure => simp [intOf]; omega
        · have hs1 : ((t.jobs k).st == 2) = false := by simpa using hs
          have HS := Lib.hid hs; clear hs
          go_wp2
          go_roundw
          case rel => exact ⟨k + 1, by omega, by go_num, by rw [← hm.out]; exact (HH.out.alloc _).passKeep (by rw [expire, if_neg (fun h => HS.out h.1)]), HQ.out.alloc _⟩
          case measure => simp [intOf]; omega
      · obtain rfl : k = 6 := by omega
        rw [hm.out] at hh
        have h6 := hh.passEnd
        have HH := Lib.hid h6; have HQ := Lib.hid hq; clear hh hq h6
        go_wp2_with (first | (refine wpList_load_whole rfl 41 _ rfl w.heap.size rfl (tcells (t.pass n)) HH.out.bl Try.underlying41 rfl (by kernel_rfl) ?_) | (refine wpList_store_whole rfl 41 _ _ rfl (w.heap.size + 1) (tcells (t.pass n)) rfl rfl HH.out.two.bl (by simp [tcells_len]) (by kernel_rfl) (tcells_ones (t.pass n)) ?_; intro w' h1' h2' h3'; have H2 := Lib.hid (HH.out.two.grown h2' h1'); have Q2 := Lib.hid (Quiet.grown h2'); have k1 := h1'.cells; clear h1' h2' h3'))
        have hl := run_load_part (P := Try.prog) (off := 0) (ty := 41) (vs := tcells (t.pass n)) (H2.out.bl) (by simp) Try.underlying41 rfl (by kernel_rfl)
        exact bodyPost_ret (results_cell1 rfl rfl hl) rfl ⟨rfl, H2.out.right.right.toBelow' (HQ.out.trans Q2.out)⟩
end Go.Proofs.Ytfihmpkkpgmdhab
