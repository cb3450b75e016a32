/-
  DiskKeeps, walked: all that was written stands.
-/
import Derived.Test.YtfihmpkkpgmdhaaDiskLaw
import Derived.Test.YtfihmpkkpgmdhaaLex
namespace Go.Proofs.Ytfihmpkkpgmdhaa
set_option linter.unusedSimpArgs false
set_option linter.unusedVariables false
open Go.RowKit

theorem append_cases (d : Dsk) (E : Int) (m : List UInt8) : (∃ r, r ≠ 0 ∧ d.append E m = (d, r)) ∨ (E = d.ep ∧ d.append E m = (⟨d.ep, d.b ++ m⟩, 0)) := by
  unfold Dsk.append
  split
  · exact .inl ⟨9, by decide, rfl⟩
  · rename_i h
    split
    · exact .inl ⟨8, by decide, rfl⟩
    · exact .inr ⟨by omega, rfl⟩
theorem cut_cases (d : Dsk) (E n : Int) : (∃ r, r ≠ 0 ∧ d.cut E n = (d, r)) ∨ (E = d.ep ∧ ∃ q : Nat, n = q ∧ q ≤ d.b.length ∧ d.cut E n = (⟨d.ep, d.b.take q⟩, 0)) := by
  unfold Dsk.cut
  split
  · exact .inl ⟨9, by decide, rfl⟩
  · rename_i h
    split
    · exact .inl ⟨3, by decide, rfl⟩
    · exact .inr ⟨by omega, n.toNat, by omega, by omega, rfl⟩
theorem wrap_self {e x : Int} (h0 : 0 ≤ e) (h1 : e ≤ 100) (hx : I64 x) (h : wrap64 (e - x) = e) : x = 0 := by
  unfold I64 at hx
  unfold wrap64 at h
  omega
theorem strOf_append (a b : List UInt8) : strOf a ++ strOf b = strOf (a ++ b) := by
  apply ByteArray.ext
  simp [strOf, ByteArray.data_append]

theorem strOf_size (l : List UInt8) : (strOf l).size = l.length := by simp [strOf, ByteArray.size]
theorem strOf_take (l : List UInt8) (q : Nat) : (strOf l).extract 0 q = strOf (l.take q) := by
  apply ByteArray.ext
  simp [strOf, ByteArray.data_extract]
/-- What stands while the clone is turned. -/
structure Turn (w W : World) (b : Nat) (d : Dsk) (F : Nat → Prop) (X : Nat) (xs : List Value) (va : Option Addr) (n : Nat) : Prop where
  st : DSt w W b d F
  x : BlockAt W X 32 xs
  far : ¬ F X
  c : n = 0 ∨ ∃ g cur, va = some ⟨g, 0, none⟩ ∧ BlockAt W g 5 cur ∧ n ≤ cur.length ∧ ¬ F g ∧ w.heap.size ≤ g

set_option maxRecDepth 100000 in
set_option maxHeartbeats 8000000 in
theorem diskKeeps_any (v : Value) (L : List DStep) (w : World) (h : StepsAt w v L) :
    Calls Try.prog 5 #[v] w fun e w' => e = .returned (.bool true) ∧ Below w.heap.size w w' := by
  have HL := Lib.hid h
  obtain ⟨a, c, rfl, hlen⟩ := h.shape
  clear h
  go_enter Try.func5, Try.ntmps5
  go_wp2_with fail
  refine (diskBegun_any w).mono ?_
  rintro e w1 ⟨rfl, hb1⟩
  have HB1 := Lib.hid hb1; clear hb1
  go_wp2_with fail
  refine (greatDisk_any _ L w1 (HL.out.keep HB1.out)).mono ?_
  rintro e w2 ⟨g, rfl, rfl, hg⟩
  have HG := Lib.hid hg; clear hg
  cases g with
  | true =>
    go_wp2
    go_ret
    exact ⟨rfl, HB1.out⟩
  | false =>
    go_wp2_with fail
    refine (dnew_st HB1.out).mono ?_
    rintro e w3 ⟨b, F1, rfl, hs⟩
    have HS := Lib.hid hs; clear hs
    go_wp2
    go_loopw [4] (fun i wr => ∃ (k : Nat) (d : Dsk) (F : Nat → Prop), k ≤ L.length ∧ i = .int .i64 k ∧ DSt w wr b d F) (fun i _ => L.length - (intOf i).toNat)
    case atStart => exact ⟨0, _, _, by omega, rfl, HS.out⟩
    case round =>
      obtain ⟨k, d, F, hk, rfl, hst⟩ := hrel
      have HST := Lib.hid hst; clear hst
      have hep0 := HST.out.ok.ep.1
      have hep1 := HST.out.ok.ep.2
      have hbl := HST.out.ok.b
      by_cases hlt : k < L.length
      · obtain ⟨x, hx⟩ : ∃ x, L[k]? = some x := ⟨_, List.getElem?_eq_getElem hlt⟩
        obtain ⟨g, off, rfl, hby, i1, i2, i3, c0, c1, c2, c3⟩ := (HL.out.keep HST.out.below).get hx
        have hxl := (HG.out trivial).2 x (List.mem_of_getElem? hx)
        have hlt2 := World.block_lt_of_cell? _ _ c0
        obtain ⟨va, vc, hv, _⟩ := hby
        rw [hv] at c3
        have HX := Lib.hid hx; have HV := Lib.hid hv
        have HI := Lib.hid i2
        have FAR := Lib.hid HST.out.far
        clear hx hv i1 i2 i3
        go_wp2_with fail
        have hst := HST.out.alloc (.cells #[.int .i64 x.op, .int .i64 x.ep, .int .i64 x.n, .slice va x.b.length vc] 32)
        have hxb := BlockAt.new wr 32 [.int .i64 x.op, .int .i64 x.ep, .int .i64 x.n, .slice va x.b.length vc]
        refine (bytes_any b d F _ hst.at_ hst.ok).mono ?_
        rintro e w4 ⟨v4, rfl, h4, hb4, hn4⟩
        have hz4 := run_string_bytes h4.bytes
        have hst4 := hst.new hb4
        have hxb4 := hxb.below hb4 (by simp)
        obtain ⟨a4, c4, rfl, _⟩ : ∃ a c, v4 = .slice a d.b.length c ∧ True := by obtain ⟨a, c, h, _⟩ := h4.bytes; exact ⟨a, c, h, trivial⟩
        have ht : Turn w w4 b d F wr.heap.size [.int .i64 x.op, .int .i64 x.ep, .int .i64 x.n, .slice va x.b.length vc] a4 d.b.length := by
          refine ⟨hst4, hxb4, FAR.out, ?_⟩
          rcases h4 with ⟨_, he⟩ | ⟨g4, cap, cur, he, hg4, l1, l2, _⟩
          · exact .inl (by simp [he])
          · simp only [Value.slice.injEq] at he
            have hge := hn4 g4 (by rw [he.1]; rfl)
            refine .inr ⟨g4, cur, he.1, hg4, by omega, fun hf => ?_, ?_⟩
            · have := hst.at_.inW _ hf; omega
            · have := hst.below.size; omega
        have HT := Lib.hid ht
        clear hst hxb h4 hb4 hn4 hst4 hxb4 ht
        go_wp2_with fail
        refine (epoch_any b d F _ HT.out.st.at_).mono ?_
        rintro e w5 ⟨rfl, rfl⟩
        go_wp2
        rename World => wo
        clear hz4 c0 c1 c2 c3
        go_loopw [9] (fun i wx => ∃ (q : Nat), q ≤ d.b.length ∧ i = .int .i64 q ∧ Turn w wx b d F wr.heap.size [.int .i64 x.op, .int .i64 x.ep, .int .i64 x.n, .slice va x.b.length vc] a4 d.b.length) (fun i _ => d.b.length - (intOf i).toNat)
        case atStart => exact ⟨0, by omega, rfl, HT.out⟩
        case round =>
          obtain ⟨q, hq, rfl, ht⟩ := hrel
          by_cases hql : q < d.b.length
          · have HT2 := Lib.hid ht
            obtain ⟨_, _, _, hcc⟩ := ht
            rcases hcc with h | ⟨g4, cur, rfl, hg4, hgl, hgf, hge⟩
            · omega
            · have e1 := hg4.cell q cur[q] (List.getElem?_eq_getElem (by omega))
              have e2 := hg4.free q
              have HG4 := Lib.hid hg4
              generalize cur[q] = u0 at *
              clear hg4
              go_wp2
              go_roundw
              case rel => exact ⟨q + 1, by omega, by go_num, ⟨HT2.out.st.upd (Upd.setCell (F := fun k => k = g4) (Upd.refl _ _) (.inl rfl) _) (fun k hk e => hgf (by rw [← e]; exact hk)) (fun k e => by rw [e]; exact hge), HT2.out.x.setOther (HT2.out.x.ne HG4.out (by decide)) _, HT2.out.far, .inr ⟨g4, _, rfl, HG4.out.set q _, by simpa using hgl, hgf, hge⟩⟩⟩
              case measure => simp [intOf]; omega
          · obtain rfl : q = d.b.length := by omega
            have x0 := ht.x.cell 0 _ rfl
            have x1 := ht.x.cell 1 _ rfl
            have x2 := ht.x.cell 2 _ rfl
            have x3 := ht.x.cell 3 _ rfl
            have HT2 := Lib.hid ht
            clear ht
            by_cases h0 : x.op = 0
            · have e0 : (x.op == 0) = true := by simpa using h0
              clear h0
              go_wp2_with fail
              refine (raise_st HT2.out.st).mono ?_
              by_cases hr : 100 ≤ d.ep
              · have hep : d.ep = 100 := by omega
                have er : d.raise = (d, 0, 8) := by rw [Dsk.raise, if_pos hr]
                rw [er]
                rintro e w6 ⟨rfl, F6, hs6⟩
                have HS6 := Lib.hid hs6
                have q1 : (d.ep != 100) = false := by simpa using hep
                clear hs6 er hep
                go_wp2_with fail
                refine (epoch_any b d F6 _ HS6.out.at_).mono ?_
                rintro e w7 ⟨rfl, rfl⟩
                go_wp2_with fail
                refine (bytes_any b d F6 _ HS6.out.at_ HS6.out.ok).mono ?_
                rintro e w8 ⟨v8, rfl, h8, hb8, _⟩
                have hz8 := run_string_bytes h8.bytes
                have HS8 := Lib.hid (HS6.out.new hb8)
                clear h8 hb8
                go_wp2
                go_roundw
                case rel => exact ⟨k + 1, _, _, by omega, by go_num, HS8.out⟩
                case measure => simp [intOf]; omega
              · have er : d.raise = (⟨d.ep + 1, d.b⟩, d.ep + 1, 0) := by rw [Dsk.raise, if_neg hr]
                rw [er]
                rintro e w6 ⟨rfl, F6, hs6⟩
                have HS6 := Lib.hid hs6
                clear hs6 er
                go_wp2_with fail
                refine (epoch_any b _ F6 _ HS6.out.at_).mono ?_
                rintro e w7 ⟨rfl, rfl⟩
                go_wp2_with fail
                refine (bytes_any b _ F6 _ HS6.out.at_ HS6.out.ok).mono ?_
                rintro e w8 ⟨v8, rfl, h8, hb8, _⟩
                have hz8 := run_string_bytes h8.bytes
                have HS8 := Lib.hid (HS6.out.new hb8)
                clear h8 hb8
                go_wp2
                go_roundw
                case rel => exact ⟨k + 1, _, _, by omega, by go_num, HS8.out⟩
                case measure => simp [intOf]; omega
            · have e0 : (x.op == 0) = false := by simpa using h0
              clear h0
              by_cases h1 : x.op = 1
              · have e1 : (x.op == 1) = true := by simpa using h1
                clear h1
                have hyb := ((HL.out.keep HT2.out.st.below).get HX.out).choose_spec.choose_spec.2.1
                rw [HV.out] at hyb
                have HYB := Lib.hid hyb
                have hzb := run_string_bytes hyb
                clear hyb
                go_wp2_with fail
                have hfr : ∃ FF, FF = F := ⟨_, rfl⟩
                refine (append_any b d F _ _ x.b _ HT2.out.st.at_ HT2.out.st.ok HYB.out (by omega)).mono ?_
                intro e w6 hp
                obtain ⟨rfl, F6, hs6, hfr6, hu6⟩ := HT2.out.st.post hp (Dsk.append_ok HT2.out.st.ok _ _)
                have hx6 := HT2.out.x.upd hu6 HT2.out.far
                have x1 := hx6.cell 1 _ rfl
                have x3 := hx6.cell 3 _ rfl
                clear x0 x2
                have hyb6 := ((HL.out.keep hs6.below).get HX.out).choose_spec.choose_spec.2.1
                rw [HV.out] at hyb6
                have hzb6 := run_string_bytes hyb6
                clear hyb6 hzb hp hfr6 hu6 hx6 hfr
                rcases append_cases d (wrap64 (d.ep - x.ep)) x.b with ⟨r, hr, he⟩ | ⟨hw, he⟩
                · rw [he] at hs6 ⊢
                  have HS6 := Lib.hid hs6
                  have r0 : (r == 0) = false := by simpa using hr
                  clear hs6 he hr
                  go_wp2_with fail
                  refine (epoch_any b d F6 _ HS6.out.at_).mono ?_
                  rintro e w7 ⟨rfl, rfl⟩
                  go_wp2_with fail
                  refine (bytes_any b d F6 _ HS6.out.at_ HS6.out.ok).mono ?_
                  rintro e w8 ⟨v8, rfl, h8, hb8, _⟩
                  have hz8 := run_string_bytes h8.bytes
                  have HS8 := Lib.hid (HS6.out.new hb8)
                  have x1 := cell_keep hb8 x1
                  clear h8 hb8
                  go_wp2
                  go_roundw
                  case rel => exact ⟨k + 1, _, _, by omega, by go_num, HS8.out⟩
                  case measure => simp [intOf]; omega
                · have hx0 := wrap_self hep0 hep1 HI.out hw
                  have x00 : (x.ep != 0) = false := by simpa using hx0
                  rw [he] at hs6 ⊢
                  have HS6 := Lib.hid hs6
                  have hsa := strOf_append d.b x.b
                  have hs1 := strOf_size d.b
                  have hs2 := strOf_size x.b
                  have hs3 : d.b.length + x.b.length ≤ 9223372036854775807 := by omega
                  clear hs6 he hw hx0
                  go_wp2_with fail
                  refine (epoch_any b _ F6 _ HS6.out.at_).mono ?_
                  rintro e w7 ⟨rfl, rfl⟩
                  go_wp2_with fail
                  refine (bytes_any b _ F6 _ HS6.out.at_ HS6.out.ok).mono ?_
                  rintro e w8 ⟨v8, rfl, h8, hb8, _⟩
                  have hz8 := run_string_bytes h8.bytes
                  have HS8 := Lib.hid (HS6.out.new hb8)
                  have x1 := cell_keep hb8 x1
                  clear h8 hb8
                  go_wp2
                  go_roundw
                  case rel => exact ⟨k + 1, _, _, by omega, by go_num, HS8.out⟩
                  case measure => simp [intOf]; omega
              · have e1 : (x.op == 1) = false := by simpa using h1
                clear h1
                by_cases h2 : x.op = 2
                · have e2 : (x.op == 2) = true := by simpa using h2
                  clear h2
                  go_wp2_with fail
                  refine (cut_any b d F _ _ _ HT2.out.st.at_ HT2.out.st.ok).mono ?_
                  intro e w6 hp
                  obtain ⟨rfl, F6, hs6, hfr6, hu6⟩ := HT2.out.st.post hp (Dsk.cut_ok HT2.out.st.ok _ _)
                  have hx6 := HT2.out.x.upd hu6 HT2.out.far
                  have x1 := hx6.cell 1 _ rfl
                  have x2 := hx6.cell 2 _ rfl
                  clear x0 x3 hp hfr6 hu6 hx6
                  rcases cut_cases d (wrap64 (d.ep - x.ep)) x.n with ⟨r, hr, he⟩ | ⟨hw, q, hq, hql, he⟩
                  · rw [he] at hs6 ⊢
                    have HS6 := Lib.hid hs6
                    have r0 : (r == 0) = false := by simpa using hr
                    clear hs6 he hr
                    go_wp2_with fail
                    refine (epoch_any b d F6 _ HS6.out.at_).mono ?_
                    rintro e w7 ⟨rfl, rfl⟩
                    go_wp2_with fail
                    refine (bytes_any b d F6 _ HS6.out.at_ HS6.out.ok).mono ?_
                    rintro e w8 ⟨v8, rfl, h8, hb8, _⟩
                    have hz8 := run_string_bytes h8.bytes
                    have HS8 := Lib.hid (HS6.out.new hb8)
                    have x1 := cell_keep hb8 x1
                    clear h8 hb8
                    go_wp2
                    go_roundw
                    case rel => exact ⟨k + 1, _, _, by omega, by go_num, HS8.out⟩
                    case measure => simp [intOf]; omega
                  · have hx0 := wrap_self hep0 hep1 HI.out hw
                    have x00 : (x.ep != 0) = false := by simpa using hx0
                    rw [he] at hs6 ⊢
                    rw [hq] at x2
                    have HS6 := Lib.hid hs6
                    have hsa := strOf_take d.b q
                    have hs1 := strOf_size d.b
                    clear hs6 he hw hx0 hq
                    go_wp2_with fail
                    refine (epoch_any b _ F6 _ HS6.out.at_).mono ?_
                    rintro e w7 ⟨rfl, rfl⟩
                    go_wp2_with fail
                    refine (bytes_any b _ F6 _ HS6.out.at_ HS6.out.ok).mono ?_
                    rintro e w8 ⟨v8, rfl, h8, hb8, _⟩
                    have hz8 := run_string_bytes h8.bytes
                    have HS8 := Lib.hid (HS6.out.new hb8)
                    have x1 := cell_keep hb8 x1
                    clear h8 hb8
                    go_wp2
                    go_roundw
                    case rel => exact ⟨k + 1, _, _, by omega, by go_num, HS8.out⟩
                    case measure => simp [intOf]; omega
                · have e2 : (x.op == 2) = false := by simpa using h2
                  clear h2
                  go_wp2
                  go_roundw
                  case rel => exact ⟨k + 1, _, _, by omega, by go_num, HT2.out.st⟩
                  case measure => simp [intOf]; omega
      · obtain rfl : k = L.length := by omega
        go_wp2
        go_ret
        exact ⟨rfl, HST.out.below⟩
end Go.Proofs.Ytfihmpkkpgmdhaa
