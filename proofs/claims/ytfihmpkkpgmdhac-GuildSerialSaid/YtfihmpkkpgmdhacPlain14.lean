/-
  Plain laws: GuildSerial, GuildStops, the stories of a guild's disk.
-/
import Derived.Test.YtfihmpkkpgmdhacPlain13
namespace Go.Proofs.Ytfihmpkkpgmdhac
set_option linter.unusedVariables false
theorem nod_at {g : Gld} {n : Nat} (h : n < 3) : g.nod n = g.f n := by
  unfold Gld.nod
  rw [if_neg (by omega)]
  rfl
/-- Opened: it serves, or there are no more epochs. -/
theorem step_open {g : Gld} {l : List Rec} (h : g.Ok l) {n : Nat} (hn : n < 3) (kp : Int) (o : Ord) {g' : Gld} {a : Ans} (hs : g.step ⟨1, n, kp, o⟩ = (g', a)) :
    g'.Ok l ∧ a.job = 0 ∧ a.tr = 0 ∧ (a.code ≠ 0 → g'.d.ep = 100) ∧ (a.code = 0 → g'.f n = some ⟨behind l, g.d.ep + 1, false⟩) := by
  obtain ⟨l', s⟩ := step_ok h ⟨1, n, kp, o⟩
  rw [hs] at s
  have hl : l' = l := by
    rcases s.grew with e | ⟨m, h1, _⟩
    · exact e
    · dsimp only at h1; omega
  rw [hl] at s
  have hok := s.ok
  unfold Gld.step at hs
  dsimp only at hs hok
  rw [if_pos rfl, if_neg (by omega)] at hs
  by_cases hc : 100 ≤ g.d.ep
  · rw [if_pos hc] at hs
    injection hs with e1 e2
    subst e1 e2
    have := h.fam.ok.ep
    exact ⟨h, rfl, rfl, fun _ => by omega, fun e => by cases e⟩
  · rw [if_neg hc] at hs
    injection hs with e1 e2
    subst e1 e2
    refine ⟨hok, rfl, rfl, fun e => absurd rfl e, fun _ => ?_⟩
    have hf : found g.d = l := h.wh.found
    simp [putN, hf]
theorem step_down {g : Gld} {l : List Rec} (h : g.Ok l) {n : Nat} (hn : n < 3) (kp : Int) (o : Ord) {nd : Nod} (hf : g.f n = some nd) {g' : Gld} {a : Ans} (hs : g.step ⟨4, n, kp, o⟩ = (g', a)) :
    g'.Ok l ∧ g'.f n = some ⟨nd.t, nd.ep, true⟩ := by
  obtain ⟨l', s⟩ := step_ok h ⟨4, n, kp, o⟩
  rw [hs] at s
  have hl : l' = l := by
    rcases s.grew with e | ⟨m, h1, _⟩
    · exact e
    · dsimp only at h1; omega
  rw [hl] at s
  have hok := s.ok
  unfold Gld.step at hs
  dsimp only at hs hok
  rw [if_neg (by decide), if_neg (by decide), if_pos (by decide), nod_at hn, hf] at hs
  dsimp only at hs
  rw [if_neg (by decide), if_neg (by decide)] at hs
  injection hs with e1 e2
  subst e1 e2
  exact ⟨hok, by simp [putN]⟩
theorem step_isdown {g : Gld} {l : List Rec} (h : g.Ok l) {n : Nat} (hn : n < 3) (kp : Int) (o : Ord) {nd : Nod} (hf : g.f n = some nd) (hd : nd.down = true) {g' : Gld} {a : Ans} (hs : g.step ⟨2, n, kp, o⟩ = (g', a)) :
    g'.Ok l ∧ a = ⟨10, 0, 0⟩ := by
  have ha : a = ⟨10, 0, 0⟩ := by
    have hs2 := hs
    unfold Gld.step at hs2
    dsimp only at hs2
    rw [if_neg (by decide), if_neg (by decide), if_pos (by decide), nod_at hn, hf] at hs2
    dsimp only at hs2
    rw [if_pos rfl] at hs2
    unfold Nod.order at hs2
    rw [if_pos hd] at hs2
    injection hs2 with e1 e2
    exact e2.symm
  obtain ⟨l', s⟩ := step_ok h ⟨2, n, kp, o⟩
  rw [hs] at s
  have hl : l' = l := (s.code rfl (by rw [ha]; simp)).1
  rw [hl] at s
  exact ⟨s.ok, ha⟩
/-- What stands on a guild's disk. -/
theorem rising_get : ∀ {l : List Rec} {e : Int} {i : Nat} {r : Rec}, Rising e l → l[i]? = some r → lastE e (l.take i) ≤ r.ep ∧ chkR r = 0 ∧ lastE e (l.take (i + 1)) = r.ep
  | [], _, _, _, _, h => by simp at h
  | q :: l, e, 0, r, ⟨a, b, c⟩, h => by
    simp at h
    subst h
    exact ⟨b, a, by simp [lastE]⟩
  | q :: l, e, i + 1, r, ⟨a, b, c⟩, h => by
    simp only [List.getElem?_cons_succ] at h
    obtain ⟨h1, h2, h3⟩ := rising_get c h
    simp only [List.take_succ_cons, lastE]
    exact ⟨h1, h2, h3⟩
def lastOf (l : List Rec) (i : Nat) : Int := max 1 (lastE 0 (l.take i))
theorem lastOf_zero (l : List Rec) : lastOf l 0 = 1 := by show max 1 (lastE 0 (l.take 0)) = 1; rw [List.take_zero]; rfl
theorem lastOf_step {d : Dsk} {l : List Rec} (h : Whole d l) {i : Nat} {r : Rec} (hr : l[i]? = some r) : lastOf l i ≤ r.ep ∧ r.ep ≤ d.ep ∧ lastOf l (i + 1) = r.ep := by
  obtain ⟨h1, h2, h3⟩ := rising_get h.rising hr
  have h4 := (chkR_range h2).1
  have h5 := h.le r (List.mem_of_getElem? hr)
  unfold lastOf
  omega
theorem done_get {t : Tbl} {l : List Rec} (h : Done t l) {i : Nat} {r : Rec} (hr : l[i]? = some r) : ((runL t (l.take i)).did r.o).2.code = 0 := by
  have h1 := evs_get t l i r hr
  have h2 := done_codes h (evOf (runL t (l.take i)) r) (List.mem_of_getElem? h1)
  exact h2
/-- The one that serves has what the disk tells. -/
theorem serves_tells {g : Gld} {l : List Rec} (h : g.Ok l) {n : Nat} {nd : Nod} (hf : g.f n = some nd) (he : nd.ep = g.d.ep) (hd : nd.down = false) : nd.t = behind l :=
  ((h.fam.sv n nd hf).2.2 he hd).2
theorem holders_zero (l : List Rec) {k : Nat} (hk : k < 6) : ((holders (evs Tbl.zero l) k).length : Int) = ((behind l).jobs k).tr ∧ ∀ (i : Nat) p, (holders (evs Tbl.zero l) k)[i]? = some p → p.2 = i + 1 := by
  obtain ⟨h1, h2⟩ := holders_tr l Tbl.zero k hk Tbl.zero_in
  have e : (Tbl.zero.jobs k).tr = 0 := rfl
  rw [e] at h1 h2
  refine ⟨by unfold behind; omega, fun i p hp => ?_⟩
  have := h2 i p hp
  omega
/-- The events of the first bytes. -/
theorem evs_parts (b : List UInt8) (k : Nat) : evs Tbl.zero (allB (b.take k)) = (evs Tbl.zero (allB b)).take (k / 9) := by rw [allB_take, evs_take]
end Go.Proofs.Ytfihmpkkpgmdhac
