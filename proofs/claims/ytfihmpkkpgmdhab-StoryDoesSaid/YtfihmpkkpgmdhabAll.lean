/-
  Records, one behind the other: All.
-/
import Derived.Test.YtfihmpkkpgmdhabRecs
import Derived.Test.YtfihmpkkpgmdhabSlices
import Derived.Test.YtfihmpkkpgmdhabCodec2
namespace Go.Proofs.Ytfihmpkkpgmdhab
set_option maxRecDepth 100000
set_option linter.unusedSimpArgs false
set_option linter.unusedVariables false
open Go.RowKit
def recs (v : Value) (l : List Rec) : HP := rw_ 48 7 v l.length (rvs l)
theorem recs_nil : recs (.slice none 0 0) [] = rw_ 48 7 (.slice none 0 0) 0 [] := rfl
theorem Ones.rvs (l : List Rec) : Ones (rvs l) := rvs_ones l
theorem rcells_ones (r : Rec) : Ones (rcells r) := fun u hu => rvs_ones [r] u (by simpa [Go.Proofs.Ytfihmpkkpgmdhab.rvs] using hu)
/-- A slice's end, as Go spells it: at the capacity the address stays. -/
theorem BytesAt.dropIf {w : World} {g off n c : Nat} {l : List UInt8} (h : BytesAt w (.slice (some ⟨g, off, none⟩) n c) l) {q : Nat} (hq : q ≤ l.length) : BytesAt w (.slice (if c = q then some ⟨g, off, none⟩ else some ⟨g, off + q, none⟩) (n - q) (c - q)) (l.drop q) := by
  have hd := h.drop hq
  split
  · rename_i e
    subst e
    obtain ⟨a', c', e, h1, h2, h3, h4⟩ := h
    simp only [Value.slice.injEq] at e
    obtain ⟨rfl, rfl, rfl⟩ := e
    have e0 : l.drop c = [] := List.drop_eq_nil_of_le h1
    rw [e0]
    exact ⟨some ⟨g, off, none⟩, 0, by simp; omega, by simp, by simp [maxLen], (fun e => by cases e), fun h => absurd rfl h⟩
  · exact hd
set_option maxRecDepth 100000 in
set_option maxHeartbeats 2000000 in
theorem all_any (v : Value) (l : List UInt8) (w : World) (h : BytesAt w v l) (hl : l.length ≤ 100000) : Calls Try.prog 43 #[v] w (PostX w (old w) (fun v => v) fun v => recs v (allB l)) := by
  go_enter Try.func43, Try.ntmps43
  go_wp2
  go_loopw [0, 3, 4] (fun s v la wr => ∃ (q : List UInt8) (acc : List Rec) (last : Int), la = .int .i64 last ∧ q.length ≤ l.length ∧ acc.length + q.length ≤ l.length ∧ BytesAt w s q ∧ Holds wr (recs v acc * old w) ∧ Quiet w wr ∧ allB l = acc ++ allFrom (q.length + 1) last q) (fun s _ _ _ => match s with | .slice _ n _ => n | _ => 0)
  case atStart => exact ⟨l, [], 0, rfl, Nat.le_refl _, by simp, h, Holds.nilRow Holds.old _ _, Quiet.refl _, by simp [allB]⟩
  case round =>
    obtain ⟨q, acc, last, rfl, hq, hac, hs, ho, hqu, hall⟩ := hrel
    have hsw := hs.old ho
    have HO := Lib.hid ho; have HQU := Lib.hid hqu; have HALL := Lib.hid hall; have HS := Lib.hid hs; have HSW := Lib.hid hsw
    clear ho hqu hall hs hsw
    generalize hD : decB q = D at *
    obtain ⟨⟨ep, ⟨c, n, j, t, k, m⟩⟩, code⟩ := D
    have HD := Lib.hid hD; clear hD
    by_cases h1 : code = 0
    · subst h1
      have h9 := decB_len (l := q) (by rw [HD.out])
      obtain ⟨a, cc, rfl, c1, c2, c3⟩ := HS.out.get
      obtain ⟨g, off, rfl, -⟩ := c3 (by intro e; subst e; simp at h9)
      clear c3
      have c9 : 9 ≤ cc := by omega
      have hdr := HS.out.dropIf h9
      have HDR := Lib.hid hdr; clear hdr
      by_cases h2 : ep < last
      · have HA := Lib.hid (show allFrom (q.length + 1) last q = [] by rw [allFrom, if_pos (by rw [HD.out]; exact .inr h2)])
        go_wp2_with fail
        refine (decode_any _ q _ HSW.out).mono ?_
        rw [HD.out]
        rintro e w2 ⟨rfl, hb2⟩
        have HO3 := Lib.hid (HO.out.below hb2); have HQ3 := Lib.hid (HQU.out.trans (Quiet.below hb2)); clear hb2
        go_wp2_with fail
        go_ret
        exact ⟨_, rfl, HQ3.out.alloc _, by rw [HALL.out, HA.out, List.append_nil]; exact HO3.out.alloc _⟩
      · have HA := Lib.hid (show allFrom (q.length + 1) last q = ⟨ep, ⟨c, n, j, t, k, m⟩⟩ :: allFrom ((q.drop 9).length + 1) ep (q.drop 9) by
          rw [allFrom, if_neg (by rw [HD.out]; simpa using h2), HD.out]
          rw [allFrom_fuel q.length ((q.drop 9).length + 1) _ _ (by simp; omega) (by simp; omega)])
        go_wp2_with fail
        refine (decode_any _ q _ HSW.out).mono ?_
        rw [HD.out]
        rintro e w2 ⟨rfl, hb2⟩
        have HQ3 := Lib.hid (HQU.out.trans (Quiet.below hb2))
        have ho3 := (((HO.out.below hb2).allocB 48 (rcells ⟨ep, ⟨c, n, j, t, k, m⟩⟩)).alloc (.cells (rcells ⟨ep, ⟨c, n, j, t, k, m⟩⟩).toArray 48)).two
        have hn3 := (OwnRow.new (w2.alloc (.cells (rcells ⟨ep, ⟨c, n, j, t, k, m⟩⟩).toArray 48)) 48 7 1 (rcells ⟨ep, ⟨c, n, j, t, k, m⟩⟩) rfl (rcells_ones _) (by omega)).row
        rw [World.size_alloc] at hn3
        obtain ⟨i0, hi, hz0, hz1, hz2⟩ := info_parts Try.infoRec
        have HO3 := Lib.hid ho3; have HN3 := Lib.hid hn3; clear ho3 hn3 hb2
        go_wp2_with (at_builtin; refine wpList_append_sl rfl _ _ 56 rfl 48 i0 _ 7 56 Try.underlying56 hi hz0 hz1 hz2 rfl (by decide) rfl rfl HO3.out HN3.out rfl (rcells_ones _) (by omega) (by omega) ?_; intro v' w' hv' hq'; have hk := hv'.two.bl.cells; simp only [rcells] at hk; have HV := Lib.hid hv'; have HQ := Lib.hid hq'; clear hv' hq')
        go_roundw
        case rel => exact ⟨q.drop 9, acc ++ [⟨ep, ⟨c, n, j, t, k, m⟩⟩], ep, rfl, by simp; omega, by simp; omega, HDR.out, by simpa [recs, rvs_append, rvs] using HV.out.two.right, (HQ3.out.alloc _).alloc _ |>.trans HQ.out, by rw [HALL.out, HA.out]; simp⟩
        case measure => simp; omega
    · have h1' : (code != 0) = true := by simpa using h1
      have HA := Lib.hid (show allFrom (q.length + 1) last q = [] by rw [allFrom, if_pos (by rw [HD.out]; exact .inl h1)])
      go_wp2_with fail
      refine (decode_any _ q _ HSW.out).mono ?_
      rw [HD.out]
      rintro e w2 ⟨rfl, hb2⟩
      have HO3 := Lib.hid (HO.out.below hb2); have HQ3 := Lib.hid (HQU.out.trans (Quiet.below hb2)); clear hb2
      go_wp2_with fail
      go_ret
      exact ⟨_, rfl, HQ3.out.alloc _, by rw [HALL.out, HA.out, List.append_nil]; exact HO3.out.alloc _⟩
end Go.Proofs.Ytfihmpkkpgmdhab
