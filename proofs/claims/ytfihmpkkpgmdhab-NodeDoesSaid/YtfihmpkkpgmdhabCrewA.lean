/-
  A crew: nodes of one disk, of both; newCrew walked.
-/
import Derived.Test.YtfihmpkkpgmdhabVergM
import Derived.Test.YtfihmpkkpgmdhabLexM
namespace Go.Proofs.Ytfihmpkkpgmdhab
set_option maxRecDepth 100000
set_option linter.unusedSimpArgs false
set_option linter.unusedVariables false
open Go.RowKit
def cblk (b bd bp : Nat) (vn vv : Value) : HP := bl b 78 [.pointer (some ⟨bd, 0, none⟩), .pointer (some ⟨bp, 0, none⟩), vn, vv]
def nrow (v : Value) (ps : List Nat) : HP := rw_ 79 1 v ps.length (pvs ps)
def vrow (v : Value) (ps : List Nat) : HP := rw_ 119 1 v ps.length (pvs ps)
def nls (bd : Nat) (ps : List Nat) (ns : List Nod) : HP := lst (fun p n => nod p bd n) ps ns
def vls (bp : Nat) (ps : List Nat) (ns : List Nod) : HP := lst (fun p n => vrg p bp n) ps ns
def CH (b bd bp : Nat) (vn vv : Value) (pn pv : List Nat) (c v : Crw) (R : HP) : HP := cblk b bd bp vn vv * (dsk bd c.d * (plt bp 115 [] v.d * (nrow vn pn * (vrow vv pv * (nls bd pn c.ns * (vls bp pv v.ns * R))))))
structure Cok (pn pv : List Nat) (c v : Crw) : Prop where
  g1 : c.Good
  g2 : v.Good
  ep : c.d.ep = v.d.ep
  ln : pn.length = c.ns.length
  lv : pv.length = v.ns.length
  nv : c.ns.length = v.ns.length
theorem plt_new {b : Nat} {w : World} {R : HP} (h : Holds w (bl b 115 [.int .i64 0, .slice none 0 0] * R)) : Holds w (plt b 115 [] Dsk.zero * R) :=
  h.imp fun F ⟨hb, hF⟩ => ⟨by decide, .slice none 0 0, hb, OwnB.nil w, by
    rw [hF]
    funext k
    simp [Value.ownBlock]⟩
set_option maxHeartbeats 4000000 in
theorem newCrew_sl (v : Value) (l : List UInt8) (w : World) (hv : BytesAt w v l) (hl : l.length ≤ 1400) :
    Calls Try.prog 34 #[v] w fun e w' => ∃ b bd bp : Nat, e = .returned (.pointer (some ⟨b, 0, none⟩)) ∧ Quiet w w' ∧ Holds w' (CH b bd bp (.slice none 0 0) (.slice none 0 0) [] [] ⟨⟨1, l⟩, []⟩ ⟨⟨1, l⟩, []⟩ (old w)) := by
  obtain ⟨a, cc, rfl, -, -⟩ := hv.shape
  have HV := Lib.hid hv; clear hv
  obtain ⟨e1, e2, ok1, ok2⟩ := newCrew_disk hl
  have E1 := Lib.hid e1; have E2 := Lib.hid e2; have OK1 := Lib.hid ok1; have OK2 := Lib.hid ok2
  clear e1 e2 ok1 ok2
  go_enter Try.func34, Try.ntmps34
  go_wp2_with fail
  refine (dnew_sl _ Holds.old).mono ?_
  rintro e w1 ⟨bd, rfl, q1, h1⟩
  have h1 : Holds w1 (dsk bd Dsk.zero * old w) := h1
  obtain ⟨bp, hbp⟩ : ∃ bp, w1.heap.size = bp := ⟨_, rfl⟩
  obtain ⟨b, hb⟩ : ∃ b, bp + 1 = b := ⟨_, rfl⟩
  have h2 := (h1.boxB (ty := 115) (cs := [.int .i64 0, .slice none 0 0]) hbp).boxB (ty := 78) (cs := [.pointer (some ⟨bd, 0, none⟩), .pointer (some ⟨bp, 0, none⟩), .slice none 0 0, .slice none 0 0]) (g := b) (by rw [World.size_alloc, hbp]; exact hb)
  have q2 := (q1.alloc (.cells ([.int .i64 0, .slice none 0 0] : List Value).toArray 115)).alloc (.cells ([.pointer (some ⟨bd, 0, none⟩), .pointer (some ⟨bp, 0, none⟩), .slice none 0 0, .slice none 0 0] : List Value).toArray 78)
  obtain ⟨w2, hw2⟩ : ∃ w2, (w1.alloc (.cells #[.int .i64 0, .slice none 0 0] 115)).alloc (.cells #[.pointer (some ⟨bd, 0, none⟩), .pointer (some ⟨bp, 0, none⟩), .slice none 0 0, .slice none 0 0] 78) = w2 := ⟨_, rfl⟩
  rw [show (w1.alloc (.cells ([.int .i64 0, .slice none 0 0] : List Value).toArray 115)).alloc (.cells ([.pointer (some ⟨bd, 0, none⟩), .pointer (some ⟨bp, 0, none⟩), .slice none 0 0, .slice none 0 0] : List Value).toArray 78) = w2 from hw2] at h2 q2
  have H2 := Lib.hid (show Holds w2 (cblk b bd bp (.slice none 0 0) (.slice none 0 0) * (dsk bd Dsk.zero * (plt bp 115 [] Dsk.zero * old w))) from (plt_new h2.two).eq (by unfold cblk; ac_rfl))
  have Q2 := Lib.hid q2
  have cc2 := (show BlockAt w2 b 78 _ from H2.out.bl).cells
  clear h1 h2 q1 q2
  go_wp2_with fail
  clear hbp hb hw2
  refine (raise_sl bd _ _ H2.out.two Dsk.zero_ok).mono ?_
  rw [E1.out]
  rintro e w3 ⟨rfl, q3, h3⟩
  have H3 := Lib.hid (show Holds w3 (cblk b bd bp (.slice none 0 0) (.slice none 0 0) * (dsk bd ⟨1, []⟩ * (plt bp 115 [] Dsk.zero * old w))) from (show Holds w3 (dsk bd ⟨1, []⟩ * (cblk b bd bp (.slice none 0 0) (.slice none 0 0) * (plt bp 115 [] Dsk.zero * old w))) from h3).two)
  have Q3 := Lib.hid (Q2.out.trans q3)
  have cc3 := (show BlockAt w3 b 78 _ from H3.out.bl).cells
  clear h3 q3 cc2
  go_wp2_with fail
  refine (append_sl bd ⟨1, []⟩ 1 _ l _ H3.out.two OK1.out (HV.out.old (H3.out.eq (by ac_rfl : _ = (cblk b bd bp (.slice none 0 0) (.slice none 0 0) * (dsk bd ⟨1, []⟩ * plt bp 115 [] Dsk.zero)) * old w))) (by omega)).mono ?_
  rw [E2.out]
  rintro e w4 ⟨rfl, q4, h4⟩
  have H4 := Lib.hid (show Holds w4 (cblk b bd bp (.slice none 0 0) (.slice none 0 0) * (dsk bd ⟨1, l⟩ * (plt bp 115 [] Dsk.zero * old w))) from (show Holds w4 (dsk bd ⟨1, l⟩ * (cblk b bd bp (.slice none 0 0) (.slice none 0 0) * (plt bp 115 [] Dsk.zero * old w))) from h4).two)
  have Q4 := Lib.hid (Q3.out.trans q4)
  have cc4 := (show BlockAt w4 b 78 _ from H4.out.bl).cells
  clear h4 q4 cc3
  go_wp2_with fail
  refine (praise_sl bp 115 [] _ _ H4.out.three Dsk.zero_ok).mono ?_
  rw [E1.out]
  rintro e w5 ⟨rfl, q5, h5⟩
  have H5 := Lib.hid (show Holds w5 (cblk b bd bp (.slice none 0 0) (.slice none 0 0) * (dsk bd ⟨1, l⟩ * (plt bp 115 [] ⟨1, []⟩ * old w))) from (show Holds w5 (plt bp 115 [] ⟨1, []⟩ * (cblk b bd bp (.slice none 0 0) (.slice none 0 0) * (dsk bd ⟨1, l⟩ * old w))) from h5).eq (by ac_rfl))
  have Q5 := Lib.hid (Q4.out.trans q5)
  have cc5 := (show BlockAt w5 b 78 _ from H5.out.bl).cells
  clear h5 q5 cc4
  go_wp2_with fail
  refine (pappend_sl bp 115 [] ⟨1, []⟩ 1 _ l _ H5.out.three OK1.out (HV.out.old (H5.out.eq (by ac_rfl : _ = (cblk b bd bp (.slice none 0 0) (.slice none 0 0) * (dsk bd ⟨1, l⟩ * plt bp 115 [] ⟨1, []⟩)) * old w))) (by omega)).mono ?_
  rw [E2.out]
  rintro e w6 ⟨rfl, q6, h6⟩
  have h7 : Holds w6 (cblk b bd bp (.slice none 0 0) (.slice none 0 0) * (dsk bd ⟨1, l⟩ * (plt bp 115 [] ⟨1, l⟩ * old w))) := (show Holds w6 (plt bp 115 [] ⟨1, l⟩ * (cblk b bd bp (.slice none 0 0) (.slice none 0 0) * (dsk bd ⟨1, l⟩ * old w))) from h6).eq (by ac_rfl)
  have Q6 := Lib.hid (Q5.out.trans q6)
  have H7 := Lib.hid ((h7.nilRow 79 1).nilRow 119 1)
  clear h6 h7 q6 cc5
  go_wp2
  go_ret
  refine ⟨b, bd, bp, rfl, Q6.out, H7.out.eq ?_⟩
  unfold CH nls vls nrow vrow
  simp only [lst, HP.emp_mul, pvs, List.map_nil, List.length_nil]
  ac_rfl
end Go.Proofs.Ytfihmpkkpgmdhab
