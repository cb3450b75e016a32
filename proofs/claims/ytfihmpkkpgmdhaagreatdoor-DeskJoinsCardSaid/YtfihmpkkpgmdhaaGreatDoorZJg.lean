/-
  What the proof of DeskJoins leans on: plain definitions and laws, and contracts of functions that it reaches. No condition besides those that each theorem names.
-/
import Derived.Test.YtfihmpkkpgmdhaaGreatDoorZJf
import Derived.Test.YtfihmpkkpgmdhaaGreatDoorZJd
import Derived.Test.YtfihmpkkpgmdhaaGreatDoorCards
import Derived.Lay
import Derived.LaidMore
import Derived.Stop.Joined
import Derived.Stop.LaidErr
import Derived.Lib.LaidTab
import Derived.Shelf.Vars
import Derived.SizedLaws
import Derived.SliceStrings
import Derived.Test.YtfihmpkkpgmdhaaGreatDoorZJe
import Derived.Test.YtfihmpkkpgmdhaaGreatDoorZJc
import Derived.Laws.Tables
import Derived.RowKit
import Derived.Test.YtfihmpkkpgmdhaaGreatDoorZJb
/-
  What a desk says.
-/
namespace Go.Proofs.YtfihmpkkpgmdhaaGreatDoor
set_option maxRecDepth 100000
set_option linter.unusedSimpArgs false
set_option linter.unusedVariables false
set_option linter.unnecessarySimpa false
open Go.RowKit
def svls (l : List (List UInt8)) : List Value := l.map fun x => .string (strOf x)
theorem svls_get {l : List (List UInt8)} {i : Nat} {x : List UInt8} (h : l[i]? = some x) : (svls l)[i]? = some (.string (strOf x)) := by simp [svls, h]
theorem join_sl (v : Value) (l : List (List UInt8)) (w : World) (hv : RowAt w v l.length (svls l)) (h0 : l.length ≠ 0) (hs : (Lib.join l [32]).length ≤ 1000000000) (hn : l.length ≤ 1000000) :
    Calls Tryz.prog 57 #[v, .string ⟨#[32]⟩] w fun e w' => e = .returned (.string (strOf (Lib.join l [32]))) ∧ Below w.heap.size w w' := by
  obtain ⟨g, off, c, rfl, h1, h2, h3⟩ := hv.get h0
  have hx : (l.map strOf).map (·.data.toList) = l := by
    rw [List.map_map]
    conv => rhs; rw [← List.map_id l]
    exact List.map_congr_left fun x _ => strOf_data x
  have hl : (l.map strOf).length = l.length := List.length_map ..
  have hd : (⟨#[32]⟩ : ByteArray).data.toList = [32] := rfl
  have hg : g < w.heap.size := by
    obtain ⟨x, hx⟩ : ∃ x, l[0]? = some x := ⟨_, List.getElem?_eq_getElem (by omega)⟩
    exact block_lt_of_cell (h3 0 _ (svls_get hx))
  have := Tryz.strings_Join g off c (l.map strOf) ⟨#[32]⟩ w (fun j x hj => by
    obtain ⟨y, hy, rfl⟩ : ∃ y, l[j]? = some y ∧ strOf y = x := by simpa using hj
    exact h3 j _ (svls_get hy)) hg (by omega) (by omega) (by rw [hx, hd]; omega)
  rw [hx, hd, hl] at this
  exact this
theorem svls_row {w : World} {l : List (List UInt8)} {g : Nat} (hg : w.heap.size = g) (hl : l.length ≤ 1000) (cs : Array Value) (hc : cs = (svls l).toArray) (ty : TypeId) : RowAt (w.alloc (.cells cs ty)) (.slice (some ⟨g, 0, none⟩) l.length l.length) l.length (svls l) := by
  subst hc; subst hg
  refine ⟨_, _, rfl, Nat.le_refl _, by simp only [maxLen]; omega, by simp, fun _ => ⟨_, _, rfl, fun j u hj => ?_⟩⟩
  rw [Nat.zero_add, World.cell?_alloc_mark]
  simpa using hj
theorem run_add_str (w : World) (a b : List UInt8) (h : a.length + b.length ≤ 4611686018427387904) : (binOp .add 9 (.string (strOf a)) (.string (strOf b))).run Tryz.prog w = .ok (.string (strOf (a ++ b))) w := by
  have h1 := strOf_size a
  have h2 := strOf_size b
  have h3 := strOf_append a b
  have hu : ∀ w, (underlying 9).run Tryz.prog w = .ok .string w := run_underlying Tryz.underlying9
  have hn : ¬ (9223372036854775807 : Int) < ((strOf a).size : Int) + ((strOf b).size : Int) := by omega
  simp [binOp, Op.stringOp, h3, h1, h2]
  omega
theorem exec_add_str {o : Oper} {a : Act} {w : World} {l m : List UInt8} (x y : Operand) (ho : o.op = .binOp .add 9 x y 9) (hx : a.eval x = .string (strOf l)) (hy : a.eval y = .string (strOf m)) (h : l.length + m.length ≤ 4611686018427387904) :
    (execOp a.eval o).run Tryz.prog w = .ok (.value (.string (strOf (l ++ m)))) w := by
  unfold execOp
  simp only [ho, hx, hy, eqGuard, Sem.run_bind, run_add_str w l m h, Result.andThen_ok, Sem.run_pure, ite_self]
set_option maxHeartbeats 1000000 in
theorem say_sl (b bg : Nat) (told : List UInt8) (v : Value) (l : List (List UInt8)) (w : World) {R : HP} (h : Holds w (kst b bg told * R)) (hv : RowAt w v l.length (svls l)) (h0 : l.length ≠ 0) (hn : l.length ≤ 1000000)
    (ht : told.length ≤ 500000000) (hs : (Lib.join l [32]).length ≤ 1000000) :
    Calls Tryz.prog 28 #[.pointer (some ⟨b, 0, none⟩), v] w fun e w' => e = .returned (.tuple #[]) ∧ Quiet w w' ∧ Holds w' (kst b bg (told ++ line (Lib.join l [32])) * R) := by
  have H := Lib.hid h
  have hj := join_sl v l w.drew hv h0 (by omega) hn
  obtain ⟨J, hJ⟩ : ∃ J, Lib.join l [32] = J := ⟨_, rfl⟩
  rw [hJ] at hj hs ⊢
  have HJ := Lib.hid hj
  have hsz := strOf_size J
  clear h hj hJ hv h0 hn
  go_enter Tryz.func28, Tryz.ntmps28
  go_wp2_with fail
  refine wp_region_lex (fun _ => True) [4, 6] (by kernel_rfl) (by kernel_rfl) trivial ?_
  repeat (first | (refine LexL.none (by rfl) ?_; (try simp only [Act.put, List.setIfInBounds_toArray, List.set_cons_zero, List.set_cons_succ])) | (refine LexL.still (v := ?_) (by rfl) ?_ ?_; rotate_left; (focus (intro W hW; (try dsimp only at hW); go_simp; (try (with_reducible rfl)); done)); (try simp only [Act.put, List.setIfInBounds_toArray, List.set_cons_zero, List.set_cons_succ])))
  refine LexL.call (f := 57) (args := #[v, .string ⟨#[32]⟩]) (w1 := w.drew) (by rfl) (by decide) (by go_simp) ?_
  refine HJ.out.mono ?_
  rintro e w1 ⟨rfl, hb⟩
  refine ⟨_, rfl, trivial, ?_⟩
  try simp only [Act.put, List.setIfInBounds_toArray, List.set_cons_zero, List.set_cons_succ]
  repeat (first | (refine LexL.none (by rfl) ?_; (try simp only [Act.put, List.setIfInBounds_toArray, List.set_cons_zero, List.set_cons_succ])) | (refine LexL.still (v := ?_) (by rfl) ?_ ?_; rotate_left; (focus (intro W hW; (try dsimp only at hW); go_simp; (try (with_reducible rfl)); done)); (try simp only [Act.put, List.setIfInBounds_toArray, List.set_cons_zero, List.set_cons_succ])))
  refine LexL.still (v := .string (strOf (line J))) (by rfl) (fun W _ => exec_add_str (l := J) (m := [10]) (.tmp 8) (.const (.string ⟨#[10]⟩)) rfl rfl rfl (by simp; omega)) ?_
  try simp only [Act.put, List.setIfInBounds_toArray, List.set_cons_zero, List.set_cons_succ]
  refine LexL.call (f := 56) (args := #[.pointer (some ⟨b, 0, none⟩), .string (strOf (line J))]) (w1 := w1) (by rfl) (by decide) (by go_simp) ?_
  refine (write_sl b bg told (line J) w1 (H.out.drew.below hb) (by rw [line_len]; omega)).mono ?_
  rintro e w2 ⟨rfl, q2, h2⟩
  refine ⟨_, rfl, trivial, ?_⟩
  try simp only [Act.put, List.setIfInBounds_toArray, List.set_cons_zero, List.set_cons_succ]
  refine LexL.done ?_
  have H2 := Lib.hid h2; have Q2 := Lib.hid q2; clear h2 q2
  go_wp2
  go_end0
  exact ⟨rfl, ((Quiet.refl _).drew.trans (Quiet.below hb)).trans Q2.out, H2.out⟩
end Go.Proofs.YtfihmpkkpgmdhaaGreatDoor

/-
  What the listed variables hold, as a walk wants it; the wrap of a row that lists them; lines that come in.
-/
namespace Go.Proofs.YtfihmpkkpgmdhaaGreatDoor
set_option maxRecDepth 100000
set_option linter.unusedSimpArgs false
set_option linter.unusedVariables false
open Go.RowKit Go.ChangeShapes Go.WideShapes
theorem laid_iface {P : Program} {n nm : String} {d : DataW Unit} {r : List (String × DataW Unit)} {W : World} {g : Nat} {ti : TypeId} {ms : Array (String × TypeId)}
    (h : laidMet P ((n, .iface nm d) :: r) W) (hg : P.globalNamed n = some g) (ht : (P.globals[g]?).map (·.type) = some ti) (hi : P.underlying ti = some (.interface ms)) : ∃ (t : TypeId) (p : Value), W.var? P n = some #[.iface t p] := by
  obtain ⟨ps, ⟨g0, t0, cs0, f0, p0, q0, hg0, ht0, hv0, hd0, _, e0⟩, _, _⟩ := h
  obtain rfl := Option.some.inj (hg.symm.trans hg0)
  obtain rfl := Option.some.inj (ht.symm.trans ht0)
  obtain ⟨f1, u, v, e, _⟩ := iface_of_trod hi hd0
  refine ⟨u, v, ?_⟩
  rw [hv0]
  congr 1
  apply Array.ext'
  exact e
theorem laid_of {W : World} (hL : laidMetH Tryz.prog Rows.deskJoinsRow.laid W) (hsh : W.ShapedOpen Tryz.prog) : Laid W := by
  rw [MakeChecks.laidMetH_plain _ _ _ (by kernel_rfl)] at hL
  have h3 : laidMet Tryz.prog (("internal/strconv.uint64pow10", Lib.tabData .u64 Lib.pow10Tab) :: [("unicode/utf8.acceptRanges", Rows.laid_unicode_utf8_acceptRanges), ("strconv.ErrRange", Rows.laid_strconv_ErrRange), ("strconv.ErrSyntax", Rows.laid_strconv_ErrSyntax), ("unicode/utf8.first", Rows.laid_unicode_utf8_first)]) W := hL.tail.tail
  refine ⟨Lib.tabIs_of_head (g := 5) (t := 209) (e := 179) (n := 20) (by kernel_rfl) (by kernel_rfl) Tryz.underlying209 Tryz.underlying179 (by kernel_rfl) (by kernel_rfl) h3, ?_, ?_, ?_⟩
  · exact laid_iface (g := 1) (ti := 78) (r := [("unicode/utf8.first", Rows.laid_unicode_utf8_first)]) h3.tail.tail.tail (by kernel_rfl) (by kernel_rfl) Tryz.underlying78
  · exact laid_iface (g := 2) (ti := 78) (r := [("strconv.ErrSyntax", Rows.laid_strconv_ErrSyntax), ("unicode/utf8.first", Rows.laid_unicode_utf8_first)]) h3.tail.tail (by kernel_rfl) (by kernel_rfl) Tryz.underlying78
  · exact cell_of_shapedOpen_int (g := 0) (t := 3) (zero := #[.int .i64 0]) (k := .i64) hsh (by decide +kernel) (by kernel_rfl) rfl (by kernel_rfl) (by kernel_rfl) Tryz.underlying3
section
variable {H : Type} {enc : TypeId × Value → H}
/-- The wrap of a row that lists variables, the world's shape kept. -/
theorem wrap_laid {a : Assume} {C : Checked} {os : Os} {f : FuncId} {fn : Func} {s : ChangeSpec} {conds : List PathCond} {apart fresh handsOn again : Bool} {X : World → Array Value → Prop}
    (hX : ∀ (w w' : World) (args : Array Value), w.heap = w'.heap → X w args → X w' args)
    (own : ownKnob C.prog.godebug = none) (started : os.Started) (noInit : C.prog.inits.idxOf? f = none) (hfn : C.prog.funcs[f]? = some fn)
    (witness : ∃ (w : World) (tape : Tape) (i : Input), w.os = os ∧ (w.forCall tape i).Shaped C.prog ∧ i.vars = [] ∧ Input.okWide C.prog (w.forCall tape i) .any w.heap.size f i ∧
      ((s.pre enc C.prog fn conds apart (w.forCall tape i).memory i.args ∧ X (w.forCall tape i).memory i.args) ∧ sizedMet enc C.prog fn (OpenSpec.ofChange s) apart (w.forCall tape i).memory i.args) ∧ a.holds C.prog (lone (Frame.enter C.prog f i.args .normal) [] (w.forCall tape i)))
    (contract : ∀ (W : World) (base : Nat) (args : Array Value) (ds gs : List (DataW H)) (before : List MemPlace),
      (∀ (j : Nat) t v, fn.params[j]? = some t → args[j]? = some v → Value.okWide C.prog W .any base t v) →
      DataW.Whole enc C.prog fn.params.toList s.vars apart W args.toList ds gs before →
      (DataW.weightsEach C.prog (fn.params.toList ++ s.plain.varTypes C.prog) (ds ++ gs)).all (· ≤ reachBytes) = true → X W args → W.ShapedOpen C.prog →
      Calls C.prog f args W fun e W' => ∃ v, e = .returned v ∧ s.post enc C.prog fn apart fresh handsOn again W args v W') :
    ReturnsInHanded a C os f .any (fun w args => (s.pre enc C.prog fn conds apart w args ∧ X w args) ∧ sizedMet enc C.prog fn (OpenSpec.ofChange s) apart w args) (s.post enc C.prog fn apart fresh handsOn again) := by
  refine returnsInHanded_of_calls own started noInit witness ?_
  intro w tape i _ hsh _ hok hpre hholds
  obtain ⟨_, _, _, fn', hfn', _, _, _, _, hval⟩ := hok
  have e : fn' = fn := Option.some.inj (hfn'.symm.trans hfn)
  subst e
  obtain ⟨⟨⟨ds, gs, before, hw, hc⟩, hx⟩, hz⟩ := hpre
  have hw' := DataW.Whole.of_heap (w' := w.forCall tape i) (by rfl) hw
  refine (contract (w.forCall tape i) w.heap.size i.args ds gs before hval hw' (hz.weights hw) (hX _ _ _ (by rfl) hx) hsh).mono fun e W' ⟨v, he, hp⟩ => ?_
  subst he
  exact ChangeSpec.post_blind hp
theorem weightsAll_mem {P : Program} {e : TypeId} : ∀ {l : List (DataW H)} {d : DataW H} {n : Nat}, d ∈ l → n ∈ d.weights P e → n ∈ DataW.weightsAll P e l
  | [], _, _, h, _ => by cases h
  | a :: l, d, n, h, hn => by
    simp only [DataW.weightsAll, List.mem_append]
    rcases List.mem_cons.1 h with rfl | h
    · exact .inl hn
    · exact .inr (weightsAll_mem h hn)
variable {P : Program} {w : World} {base : Nat} {spare : Nat → Bool} {held : Bool}
/-- Lines that come in. -/
theorem strsAt_of {t e : TypeId} {fuel : Nat} {a : Option Addr} {len cap : Nat} {x : DataW H × List MemPlace} (ht : P.underlying t = some (.slice e)) (he : P.underlying e = some .string) (hc : P.cellsOf e = 1)
    (h : DataW.trod enc P w base spare held fuel t [.slice a len cap] = some x) {ts : List TypeId} {ds : List (DataW H)} {j : Nat} (hts : ts[j]? = some t) (hds : ds[j]? = some x.1) (hz : (DataW.weightsEach P ts ds).all (· ≤ reachBytes) = true) :
    ∃ L : List (List UInt8), RowAt w (.slice a len cap) L.length (svls L) ∧ ∀ s ∈ L, s.length ≤ 140737488351232 := by
  rcases open_strings ht he hc h with ⟨h0, _⟩ | ⟨a', len', cap', ss, hcs, _, hl, hm, hss, hx, hcell, _⟩
  · simp at h0
    obtain ⟨rfl, rfl, rfl⟩ := h0
    exact ⟨[], ⟨none, 0, rfl, Nat.le_refl _, Nat.zero_le _, fun _ => rfl, fun h => absurd rfl h⟩, fun s hs => by cases hs⟩
  · simp only [List.cons.injEq, Value.slice.injEq, and_true] at hcs
    obtain ⟨rfl, rfl, rfl⟩ := hcs
    have hsl : len ≤ ss.length := by rw [hss]; split <;> omega
    have hL : ((ss.take len).map fun s => s.data.toList).length = len := by rw [List.length_map, List.length_take]; omega
    refine ⟨(ss.take len).map fun s => s.data.toList, ?_, fun s hs => ?_⟩
    · rw [hL]
      refine ⟨some a', cap, rfl, hl, hm, by simp, fun h0 => ?_⟩
      have hc0 := hcell 0 (by omega)
      rw [Addr.add_zero'] at hc0
      have ea := addr_of_cell hc0
      refine ⟨a'.block, a'.off, by rw [← ea], fun j u hu => ?_⟩
      have hj : j < len := by
        have := (List.getElem?_eq_some_iff.1 hu).1
        rw [svls, List.length_map, hL] at this; exact this
      have hcj := hcell j (by omega)
      rw [ea, Addr.add_lit] at hcj
      rw [hcj]
      have hsj : ss[j]? = some (ss.getD j ByteArray.empty) := by simp [show j < ss.length by omega]
      have : (svls ((ss.take len).map fun s => s.data.toList))[j]? = some (.string (ss.getD j ByteArray.empty)) := by
        rw [svls, List.getElem?_map, List.getElem?_map, List.getElem?_take, if_pos hj, hsj]
        simp only [Option.map_some, Go.Proofs.YtfihmpkkpgmdhaaGreatDoor.strOf_list]
      rw [this] at hu
      exact hu
    · obtain ⟨b, hb, rfl⟩ := List.mem_map.1 hs
      have hm2 : b.data.toList.length ∈ (x.1).weights P t := by
        rw [hx]
        simp only [DataW.weights, ht, List.mem_cons, List.mem_append]
        refine .inr (.inl (weightsAll_mem (d := .lit (.string b.data.toList)) ?_ (by simp [DataW.weights])))
        exact List.mem_map.2 ⟨b, hb, rfl⟩
      exact of_decide_eq_true (List.all_eq_true.1 hz _ (DataW.weights_mem_each hts hds _ hm2))
end
end Go.Proofs.YtfihmpkkpgmdhaaGreatDoor

/-
  What a desk answers to a step.
-/
namespace Go.Proofs.YtfihmpkkpgmdhaaGreatDoor
set_option maxRecDepth 100000
set_option linter.unusedSimpArgs false
set_option linter.unusedVariables false
set_option linter.unnecessarySimpa false
open Go.RowKit
theorem join_one' (x : List UInt8) : Lib.join [x] [32] = x := Lib.join_one x [32]
theorem join_two (x y : List UInt8) : Lib.join [x, y] [32] = x ++ 32 :: y := by rw [Lib.join_cons]; simp [Lib.joinTail]
theorem sm_i64 {n : Int} (h : Sm n) : I64' n := h.big
set_option maxHeartbeats 1000000 in
theorem answer_sl (b bg : Nat) (told : List UInt8) (a : Ans) (take : Bool) (w : World) {w0 : World} {R : HP} (h : Holds w (kst b bg told * (lay w0 * R))) (ha : a.Sm) (ht : told.length ≤ 400000000) :
    Calls Tryz.prog 43 #[.pointer (some ⟨b, 0, none⟩), .agg #[.int .i64 a.code, .int .i64 a.job, .int .i64 a.tr], .bool take] w fun e w' => e = .returned (.tuple #[]) ∧ Quiet w w' ∧ Holds w' (kst b bg (told ++ line (ansTxt a take)) * (lay w0 * R)) := by
  obtain ⟨c, j, t⟩ := a
  have hc := sm_i64 ha.code
  have hj : ∀ n ∈ [j, t], I64' n := fun n hn => by
    simp only [List.mem_cons, List.mem_nil_iff, or_false] at hn
    rcases hn with rfl | rfl
    · exact sm_i64 ha.job
    · exact sm_i64 ha.tr
  have HC := Lib.hid hc; have HJ := Lib.hid hj
  have hl1 := Lib.itoa_length_le c hc.1 hc.2
  have hl2 := nums_le hj
  have H0 := Lib.hid (h.alloc (.cells #[.int .i64 c, .int .i64 j, .int .i64 t] 88))
  clear h ha hc hj
  by_cases h0 : c = 0
  · subst h0
    clear HC hl1
    cases take with
    | false =>
      go_enter Tryz.func43, Tryz.ntmps43
      go_wp2_with (go_at_call 28; refine (say_sl b bg told _ [tOk] _ (H0.out.alloc _) (svls_row (by simp) (by simp) _ rfl _) (by simp) (by simp) (by omega) (by rw [join_one']; simp [tOk])).mono ?_; rintro e w1 ⟨rfl, q1, h1⟩)
      rw [join_one'] at h1
      go_end0
      exact ⟨rfl, (((Quiet.refl _).alloc _).alloc _).trans q1, h1⟩
    | true =>
      go_enter Tryz.func43, Tryz.ntmps43
      go_wp2_with fail
      refine (nums_sl _ [j, t] _ ((lay_laid H0.out.two).alloc _) (ivs_row (by simp) (by simp) _ rfl _) (by simp) HJ.out).mono ?_
      rintro e w1 ⟨rfl, hb1⟩
      have h1 := (H0.out.alloc (.cells #[.int .i64 j, .int .i64 t] 3)).below hb1
      have H1 := Lib.hid h1; have B1 := Lib.hid hb1; clear h1 hb1
      have hsz : (strOf (nums [j, t])).size ≤ 44 := by rw [strOf_size]; simpa using hl2
      have hl3 : (nums [j, t]).length ≤ 44 := by simpa using hl2
      obtain ⟨N, hN⟩ : ∃ N, nums [j, t] = N := ⟨_, rfl⟩
      rw [hN] at hsz hl3 ⊢
      have HN := Lib.hid hN; clear hN hl2
      go_wp2_with (go_at_call 28; refine (say_sl b bg told _ [tOk ++ N] _ (H1.out.alloc _) (svls_row (by simp) (by simp) _ (by simp only [svls, List.map_cons, List.map_nil, ← strOf_append]; rfl) _) (by simp) (by simp) (by omega) (by rw [join_one']; simp [tOk]; omega)).mono ?_; rintro e w2 ⟨rfl, q2, h2⟩)
      rw [join_one', ← HN.out] at h2
      go_end0
      exact ⟨rfl, ((((Quiet.refl _).alloc _).alloc _).trans (Quiet.below B1.out)).trans (((Quiet.refl _).alloc _).trans q2), h2⟩
  · have e : ∀ x : Bool, ansTxt ⟨c, j, t⟩ x = tNo ++ 32 :: Lib.itoa c := fun x => by simp [ansTxt, h0, nums]
    rw [e]
    clear e HJ hl2
    go_enter Tryz.func43, Tryz.ntmps43
    go_wp2_with fail
    refine (num_sl c _ (lay_laid H0.out.two) HC.out).mono ?_
    rintro e w1 ⟨rfl, hb1⟩
    have h1 := H0.out.below hb1
    have H1 := Lib.hid h1; have B1 := Lib.hid hb1; clear h1 hb1
    obtain ⟨N, hN⟩ : ∃ N, Lib.itoa c = N := ⟨_, rfl⟩
    rw [hN] at hl1 ⊢
    have HN := Lib.hid hN; clear hN
    go_wp2_with (go_at_call 28; refine (say_sl b bg told _ [tNo, N] _ (H1.out.alloc _) (svls_row (by simp) (by simp) _ rfl _) (by simp) (by simp) (by omega) (by rw [join_two]; simp [tNo]; omega)).mono ?_; rintro e w2 ⟨rfl, q2, h2⟩)
    rw [join_two, ← HN.out] at h2
    go_end0
    exact ⟨rfl, (((Quiet.refl _).alloc _).trans (Quiet.below B1.out)).trans (((Quiet.refl _).alloc _).trans q2), h2⟩
end Go.Proofs.YtfihmpkkpgmdhaaGreatDoor

/-
  Events in memory; what comes in: events.
-/
namespace Go.Proofs.YtfihmpkkpgmdhaaGreatDoor
set_option linter.unusedSimpArgs false
set_option linter.unusedVariables false
open Go.RowKit Go.ChangeShapes Go.WideShapes Go.Deep
def Ev.ints (e : Ev) : List Int := [e.r.ep, e.r.o.kind, e.r.o.now, e.r.o.job, e.r.o.tr, e.r.o.wk, e.r.o.tm, e.a.code, e.a.job, e.a.tr, e.j.st, e.j.wk, e.j.tr, e.j.un]
def evcells (e : Ev) : List Value := ivs e.ints
def evvs (l : List Ev) : List Value := l.flatMap evcells
theorem evcells_length (e : Ev) : (evcells e).length = 14 := rfl
theorem evvs_append (l m : List Ev) : evvs (l ++ m) = evvs l ++ evvs m := by simp [evvs]
theorem evvs_length (l : List Ev) : (evvs l).length = l.length * 14 := by
  induction l with
  | nil => rfl
  | cons e l ih => simp only [evvs, List.flatMap_cons, List.length_append, evcells_length, List.length_cons] at *; omega
theorem evvs_get (l : List Ev) : ∀ (i j : Nat), j < 14 → (evvs l)[i * 14 + j]? = (l[i]?).bind fun r => (evcells r)[j]? := by
  induction l with
  | nil => intro i j _; simp [evvs]
  | cons r l ih =>
    intro i j hj
    have e : evvs (r :: l) = evcells r ++ evvs l := by simp [evvs]
    rw [e]
    cases i with
    | zero => rw [List.getElem?_append_left (by rw [evcells_length]; omega)]; simp
    | succ i =>
      rw [List.getElem?_append_right (by rw [evcells_length]; omega), evcells_length, show (i + 1) * 14 + j - 14 = i * 14 + j by omega, ih i j hj]
      simp
theorem evvs_cell {w : World} {g off : Nat} {l : List Ev} (h : ∀ j u, (evvs l)[j]? = some u → w.cell? ⟨g, off + j, none⟩ = some u) {i : Nat} {r : Ev} (hi : l[i]? = some r) (j : Nat) (u : Value) (hj : j < 14) (hu : (evcells r)[j]? = some u) : w.cell? ⟨g, off + i * 14 + j, none⟩ = some u := by
  rw [Nat.add_assoc]
  refine h _ _ ?_
  rw [evvs_get l i j hj, hi]
  exact hu
theorem ivs_ones (z : List Int) : Ones (ivs z) := fun u hu => by
  simp only [ivs, List.mem_map] at hu
  obtain ⟨n, _, rfl⟩ := hu
  rfl
theorem evvs_ones (l : List Ev) : Ones (evvs l) := fun u hu => by
  simp only [evvs, List.mem_flatMap] at hu
  obtain ⟨e, _, hu⟩ := hu
  exact ivs_ones _ u hu
def sevs (v : Value) (l : List Ev) : HP := rw_ 125 14 v l.length (evvs l)
theorem Holds.nilE {w : World} {A : HP} (h : Holds w A) : Holds w (sevs (.slice none 0 0) [] * A) := h.nilRow _ _
theorem ev_of {z : List Int} (h : z.length = 14) : ∃ r : Ev, z = r.ints := by
  match z, h with
  | [a, b, c, d, e, f, g, h, i, j, k, l, m, n], _ => exact ⟨⟨⟨a, ⟨b, c, d, e, f, g⟩⟩, ⟨h, i, j⟩, ⟨k, l, m, n⟩⟩, rfl⟩
theorem evl_of : ∀ (zs : List (List Int)), (∀ z ∈ zs, z.length = 14) → ∃ l : List Ev, zs = l.map Ev.ints
  | [], _ => ⟨[], rfl⟩
  | z :: zs, h => by
    obtain ⟨r, rfl⟩ := ev_of (h z (by simp))
    obtain ⟨l, rfl⟩ := evl_of zs fun z hz => h z (by simp [hz])
    exact ⟨r :: l, rfl⟩
theorem evl_cells (l : List Ev) : (l.map Ev.ints).flatMap ivs = evvs l := by
  induction l with
  | nil => rfl
  | cons r l ih => simp only [List.map_cons, List.flatMap_cons, ih]; rfl
section
variable {H : Type} {enc : TypeId × Value → H} {w : World} {base : Nat} {spare : Nat → Bool} {held : Bool}
theorem seventsAt_of {fuel : Nat} {a : Option Addr} {len cap : Nat} {x : DataW H × List MemPlace} (h : DataW.trod enc Tryz.prog w base spare held fuel 123 [.slice a len cap] = some x) :
    ∃ l : List Ev, l.length = len ∧ RowAt w (.slice a len cap) l.length (evvs l) := by
  obtain ⟨zs, hl, hz, hr⟩ := row_of (d := 5) Tryz.underlying123 (by kernel_rfl) (show Tryz.prog.cellsOf 125 = 14 by kernel_rfl) (by decide) h
  obtain ⟨l, rfl⟩ := evl_of zs fun z h => (hz z h).1
  rw [evl_cells] at hr
  simp only [List.length_map] at hl
  subst hl
  exact ⟨l, rfl, hr⟩
end
end Go.Proofs.YtfihmpkkpgmdhaaGreatDoor

/-
  Structs of structs, built.
-/
namespace Go.Proofs.YtfihmpkkpgmdhaaGreatDoor
set_option linter.unusedSimpArgs false
set_option linter.unusedVariables false
open Go.RowKit
section
variable {P : Program}
/-- A struct built, its cells spelled. -/
theorem wpList_built {ops : Array Oper} {rest : List Oper} {o : Oper} {a : Act} {w : World} {Q : Exit → Act → World → Prop} (hg : o.guard = none) (t : TypeId) (parts : Array (Nat × Operand)) (ho : o.op = .build t parts) (vs : List Value)
    (hb : P.built t (parts.map fun (i, x) => (i, a.eval x)).toList = some vs.toArray)
    (h : wpList P ops Q rest (a.put o.dst (.agg vs.toArray)) w) : wpList P ops Q (o :: rest) a w :=
  wpList_build hg t parts ho (by rw [hb]; rfl) (by rw [hb]; exact h)
end
end Go.Proofs.YtfihmpkkpgmdhaaGreatDoor

/-
  The story, walked: Of.
-/
namespace Go.Proofs.YtfihmpkkpgmdhaaGreatDoor
set_option linter.unusedSimpArgs false
set_option linter.unusedVariables false
open Go.RowKit
theorem Tryz.infoSEv : (Tryz.prog.info? 125).map (fun i => (i.zero, i.size, i.bytes)) = some (some (.agg #[.int .i64 0, .int .i64 0, .int .i64 0, .int .i64 0, .int .i64 0, .int .i64 0, .int .i64 0, .int .i64 0, .int .i64 0, .int .i64 0, .int .i64 0, .int .i64 0, .int .i64 0, .int .i64 0]), 14, 112) := by kernel_rfl
theorem evs_step {L : List Rec} {k : Nat} {r : Rec} (hr : L[k]? = some r) : evs Tbl.zero (L.take (k + 1)) = evs Tbl.zero (L.take k) ++ [evOf (runL Tbl.zero (L.take k)) r] := by
  have hl := (List.getElem?_eq_some_iff.1 hr).1
  rw [List.take_succ_eq_append_getElem hl, evs_append, (List.getElem?_eq_some_iff.1 hr).2]
  rfl
theorem rvs_cell0 {w : World} {g off : Nat} {l : List Rec} (h : ∀ j u, (rvs l)[j]? = some u → w.cell? ⟨g, off + j, none⟩ = some u) {i : Nat} {r : Rec} (hi : l[i]? = some r) : w.cell? ⟨g, off + i * 7, none⟩ = some (.int .i64 r.ep) := by
  have := rvs_cell h hi 0 _ (by omega) rfl
  rwa [Nat.add_zero] at this
theorem evcells_ones (e : Ev) : Ones (evcells e) := ivs_ones _
theorem ev_fit {w : World} {v : Value} {R : HP} (acc : List Ev) (e : Ev) (h : Holds w (rw_ 125 14 v (acc.length + 1) (evvs acc ++ evcells e) * R)) : Holds w (sevs v (acc ++ [e]) * R) :=
  h.eq (by unfold sevs; rw [evvs_append, List.length_append]; simp [evvs])
set_option maxRecDepth 100000 in
set_option maxHeartbeats 8000000 in
theorem of_any (v : Value) (b : List UInt8) (w : World) (h : BytesAt w v b) (hl : b.length ≤ 100000) : Calls Tryz.prog 54 #[v] w (PostX w (old w) (fun v => v) fun v => sevs v (evs Tbl.zero (allB b))) := by
  obtain ⟨va, vc, rfl, -, -⟩ := h.shape
  have HV := Lib.hid h; clear h
  have hL9 := allB_len b
  obtain ⟨L, hL⟩ : ∃ L, allB b = L := ⟨_, rfl⟩
  have HL := Lib.hid hL
  rw [hL] at hL9 ⊢
  clear hL
  obtain ⟨i0, hi, hz0, hz1, hz2⟩ := info_parts Tryz.infoSEv
  have HI := Lib.hid hi; have HZ0 := Lib.hid hz0; have HZ1 := Lib.hid hz1; have HZ2 := Lib.hid hz2
  clear hi hz0 hz1 hz2
  go_enter Tryz.func54, Tryz.ntmps54
  go_wp2_with fail
  refine (new_sl _ Holds.old).mono ?_
  rintro e w1 ⟨bt, rfl, q1, h1⟩
  have H1 := Lib.hid (show Holds w1 (tab bt Tbl.zero * old w) from h1); have Q1 := Lib.hid q1; clear h1 q1
  have HV1 := Lib.hid (HV.out.old H1.out)
  go_wp2_with fail
  refine (all_sl _ b _ HV1.out hl H1.out).mono ?_
  rw [HL.out]
  rintro e w2 ⟨v2, rfl, q2, h2⟩
  obtain ⟨a, cc, rfl, c1, c2⟩ := h2.row.shape
  have H2 := Lib.hid (show Holds w2 (recs (.slice a L.length cc) L * (tab bt Tbl.zero * old w)) from h2); have Q2 := Lib.hid (Q1.out.trans q2)
  clear h2 q2 H1 Q1 HV1 c1 c2
  have hL200 : L.length ≤ 20000 := by omega
  go_wp2_with fail
  go_loopw [4, 14] (fun s i wr => ∃ k : Nat, k ≤ L.length ∧ i = .int .i64 k ∧ Holds wr (sevs s (evs Tbl.zero (L.take k)) * (recs (.slice a L.length cc) L * (tab bt (runL Tbl.zero (L.take k)) * old w))) ∧ Quiet w wr) (fun _ i _ => L.length - (intOf i).toNat)
  case atStart => exact ⟨0, by omega, rfl, H2.out.nilE, Q2.out⟩
  case round =>
    obtain ⟨k, hk, rfl, hh, hq⟩ := hrel
    have HK := Lib.hid hk
    by_cases hlt : k < L.length
    · obtain ⟨r, hr⟩ : ∃ r, L[k]? = some r := ⟨_, List.getElem?_eq_getElem hlt⟩
      obtain ⟨g, off, cx, e, _, _, hc0⟩ := hh.two.row.get (by omega)
      simp only [Value.slice.injEq] at e
      obtain ⟨rfl, _, rfl⟩ := e
      have hrun := Lib.hid (runL_step hr Tbl.zero)
      have hev := Lib.hid (evs_step hr)
      have hin := Lib.hid (runL_in Tbl.zero_in (L.take k))
      obtain ⟨acc, hacc⟩ : ∃ acc, evs Tbl.zero (L.take k) = acc := ⟨_, rfl⟩
      have hal : acc.length ≤ 20000 := by rw [← hacc, evs_len, List.length_take]; omega
      obtain ⟨ep2, ⟨kd, nw, jb, tr, wk, tm⟩⟩ := r
      have y0 := rvs_cell0 hc0 hr
      have y1 := rvs_cell hc0 hr 1 _ (by omega) rfl
      have y2 := rvs_cell hc0 hr 2 _ (by omega) rfl
      have y3 := rvs_cell hc0 hr 3 _ (by omega) rfl
      have y4 := rvs_cell hc0 hr 4 _ (by omega) rfl
      have y5 := rvs_cell hc0 hr 5 _ (by omega) rfl
      have y6 := rvs_cell hc0 hr 6 _ (by omega) rfl
      dsimp only at y0 y1 y2 y3 y4 y5 y6 hrun
      obtain ⟨T, hT⟩ : ∃ T, runL Tbl.zero (L.take k) = T := ⟨_, rfl⟩
      rw [hT] at hh hin hrun hev
      rw [hacc] at hh hev
      unfold evOf at hev
      dsimp only at hev
      obtain ⟨⟨T', ⟨a0, a1, a2⟩⟩, hX⟩ : ∃ X, T.did ⟨kd, nw, jb, tr, wk, tm⟩ = X := ⟨_, rfl⟩
      rw [hX] at hrun hev
      dsimp only at hrun hev
      have HX := Lib.hid hX
      obtain ⟨wo, rfl⟩ : ∃ wo : World, wo = wr := ⟨_, rfl⟩
      have hx := hh.boxB (ty := 103) (cs := [.int .i64 ep2, .int .i64 kd, .int .i64 nw, .int .i64 jb, .int .i64 tr, .int .i64 wk, .int .i64 tm]) rfl
      have HB := Lib.hid hx; have QB := Lib.hid (hq.alloc (.cells ([.int .i64 ep2, .int .i64 kd, .int .i64 nw, .int .i64 jb, .int .i64 tr, .int .i64 wk, .int .i64 tm] : List Value).toArray 103))
      clear hh hq hr hc0 hx hT hX hacc
      go_wp2_with fail
      clear y0 y1 y2 y3 y4 y5 y6
      refine (do_sl bt T kd nw jb tr wk tm _ (HB.out.four) hin.out.ok).mono ?_
      rw [HX.out]
      simp only [Ans.val]
      rintro e w3 ⟨rfl, q3, h3⟩
      obtain ⟨gr, hgr⟩ : ∃ gr, wo.heap.size = gr := ⟨_, rfl⟩
      rw [hgr] at h3 ⊢
      have H3 := Lib.hid (show Holds w3 (bl gr 103 [.int .i64 ep2, .int .i64 kd, .int .i64 nw, .int .i64 jb, .int .i64 tr, .int .i64 wk, .int .i64 tm] * (sevs u4 acc * (recs (.slice (some ⟨g, off, none⟩) L.length cc) L * (tab bt T' * old w)))) from h3.eq (by ac_rfl)); have Q3 := Lib.hid (QB.out.trans q3)
      clear h3 q3 HB QB hgr
      have cr := H3.out.bl.cells
      have lr := H3.out.bl.lt
      have h4 := (H3.out.boxB (ty := 88) (cs := [.int .i64 a0, .int .i64 a1, .int .i64 a2]) rfl).boxB (ty := 125) (cs := [.int .i64 ep2, .int .i64 kd, .int .i64 nw, .int .i64 jb, .int .i64 tr, .int .i64 wk, .int .i64 tm, .int .i64 a0, .int .i64 a1, .int .i64 a2, .int .i64 0, .int .i64 0, .int .i64 0, .int .i64 0]) (g := w3.heap.size + 1) (by simp)
      have H4 := Lib.hid h4; have Q4 := Lib.hid ((Q3.out.alloc (.cells ([.int .i64 a0, .int .i64 a1, .int .i64 a2] : List Value).toArray 88)).alloc (.cells ([.int .i64 ep2, .int .i64 kd, .int .i64 nw, .int .i64 jb, .int .i64 tr, .int .i64 wk, .int .i64 tm, .int .i64 a0, .int .i64 a1, .int .i64 a2, .int .i64 0, .int .i64 0, .int .i64 0, .int .i64 0] : List Value).toArray 125))
      clear h4
      by_cases hc : a0 = 0
      · subst hc
        rw [if_pos rfl] at hev
        by_cases h2 : kd = 2
        · subst h2
          rw [if_pos rfl] at hev
          obtain ⟨⟨s1, s2, s3, s4⟩, hJ⟩ : ∃ J, T'.job a1 = J := ⟨_, rfl⟩
          rw [hJ] at hev
          have HJ := Lib.hid hJ; clear hJ
          go_wp2_with (refine wpList_built rfl 125 _ rfl [.int .i64 ep2, .int .i64 2, .int .i64 nw, .int .i64 jb, .int .i64 tr, .int .i64 wk, .int .i64 tm, .int .i64 0, .int .i64 a1, .int .i64 a2, .int .i64 0, .int .i64 0, .int .i64 0, .int .i64 0] (by kernel_rfl) ?_)
          refine (job_sl bt T' a1 _ (H4.out.eq (by ac_rfl : _ = tab bt T' * (bl (w3.heap.size + 1) 125 [.int .i64 ep2, .int .i64 2, .int .i64 nw, .int .i64 jb, .int .i64 tr, .int .i64 wk, .int .i64 tm, .int .i64 0, .int .i64 a1, .int .i64 a2, .int .i64 0, .int .i64 0, .int .i64 0, .int .i64 0] * (bl w3.heap.size 88 [.int .i64 0, .int .i64 a1, .int .i64 a2] * (bl gr 103 [.int .i64 ep2, .int .i64 2, .int .i64 nw, .int .i64 jb, .int .i64 tr, .int .i64 wk, .int .i64 tm] * (sevs u4 acc * (recs (.slice (some ⟨g, off, none⟩) L.length cc) L * old w)))))))).mono ?_
          rw [HJ.out]
          simp only [Job.val, jcells]
          rintro e w5 ⟨rfl, hb5⟩
          have H5 := Lib.hid (H4.out.below hb5); have Q5 := Lib.hid (Q4.out.trans (Quiet.below hb5))
          have ce := H5.out.bl.cells
          have fe := H5.out.bl.frees
          have le := H5.out.bl.lt
          clear hb5 cr lr H4 Q4 H3 Q3
          have h6 := (((H5.out.setB 10 (.int .i64 s1)).setB 11 (.int .i64 s2)).setB 12 (.int .i64 s3)).setB 13 (.int .i64 s4)
          have hn3 := (OwnRow.new ((((w5.setCell ⟨w3.heap.size + 1, 10, none⟩ (.int .i64 s1)).setCell ⟨w3.heap.size + 1, 11, none⟩ (.int .i64 s2)).setCell ⟨w3.heap.size + 1, 12, none⟩ (.int .i64 s3)).setCell ⟨w3.heap.size + 1, 13, none⟩ (.int .i64 s4)) 125 14 1 [.int .i64 ep2, .int .i64 2, .int .i64 nw, .int .i64 jb, .int .i64 tr, .int .i64 wk, .int .i64 tm, .int .i64 0, .int .i64 a1, .int .i64 a2, .int .i64 s1, .int .i64 s2, .int .i64 s3, .int .i64 s4] rfl (evcells_ones ⟨⟨ep2, ⟨2, nw, jb, tr, wk, tm⟩⟩, ⟨0, a1, a2⟩, ⟨s1, s2, s3, s4⟩⟩) (by omega)).row
          have ho3 := (h6.alloc (.cells #[.int .i64 ep2, .int .i64 2, .int .i64 nw, .int .i64 jb, .int .i64 tr, .int .i64 wk, .int .i64 tm, .int .i64 0, .int .i64 a1, .int .i64 a2, .int .i64 s1, .int .i64 s2, .int .i64 s3, .int .i64 s4] 125)).four
          have HN3 := Lib.hid hn3; have HO3 := Lib.hid ho3; have QO3 := Lib.hid (((((Q5.out.setCell ⟨w3.heap.size + 1, 10, none⟩ (.int .i64 s1)).setCell ⟨w3.heap.size + 1, 11, none⟩ (.int .i64 s2)).setCell ⟨w3.heap.size + 1, 12, none⟩ (.int .i64 s3)).setCell ⟨w3.heap.size + 1, 13, none⟩ (.int .i64 s4)).alloc (.cells #[.int .i64 ep2, .int .i64 2, .int .i64 nw, .int .i64 jb, .int .i64 tr, .int .i64 wk, .int .i64 tm, .int .i64 0, .int .i64 a1, .int .i64 a2, .int .i64 s1, .int .i64 s2, .int .i64 s3, .int .i64 s4] 125)); clear hn3 ho3 h6
          simp only [World.size_setCell] at HN3
          go_wp2_with (first | (refine wpList_built rfl 125 _ rfl [.int .i64 ep2, .int .i64 2, .int .i64 nw, .int .i64 jb, .int .i64 tr, .int .i64 wk, .int .i64 tm, .int .i64 0, .int .i64 a1, .int .i64 a2, .int .i64 0, .int .i64 0, .int .i64 0, .int .i64 0] (by kernel_rfl) ?_) | (at_builtin; refine wpList_append_sl rfl _ _ 123 rfl 125 i0 _ 14 112 Tryz.underlying123 HI.out HZ0.out HZ1.out HZ2.out rfl (by decide) rfl rfl HO3.out HN3.out rfl (evcells_ones ⟨⟨ep2, ⟨2, nw, jb, tr, wk, tm⟩⟩, ⟨0, a1, a2⟩, ⟨s1, s2, s3, s4⟩⟩) (by omega) (by omega) ?_; intro v' w' hv' hq'; have HV' := Lib.hid hv'; have HQ' := Lib.hid hq'; clear hv' hq'))
          go_roundw
          case rel => exact ⟨k + 1, by omega, by go_num, by rw [hev.out, hrun.out]; exact (ev_fit acc ⟨⟨ep2, ⟨2, nw, jb, tr, wk, tm⟩⟩, ⟨0, a1, a2⟩, ⟨s1, s2, s3, s4⟩⟩ (HV'.out.eq (by ac_rfl : _ = bl (w3.heap.size + 1) 125 _ * (bl w3.heap.size 88 _ * (bl gr 103 _ * (rw_ 125 14 v' (acc.length + 1) (evvs acc ++ evcells ⟨⟨ep2, ⟨2, nw, jb, tr, wk, tm⟩⟩, ⟨0, a1, a2⟩, ⟨s1, s2, s3, s4⟩⟩) * (recs (.slice (some ⟨g, off, none⟩) L.length cc) L * (tab bt T' * old w)))))) ).right.right.right), QO3.out.trans HQ'.out⟩
          case measure => simp [intOf]; omega
        · have hk2 : (kd == 2) = false := by simpa using h2
          rw [if_neg h2] at hev
          clear h2
          obtain ⟨⟨s1, s2, s3, s4⟩, hJ⟩ : ∃ J, T'.job jb = J := ⟨_, rfl⟩
          rw [hJ] at hev
          have HJ := Lib.hid hJ; clear hJ
          go_wp2_with (refine wpList_built rfl 125 _ rfl [.int .i64 ep2, .int .i64 kd, .int .i64 nw, .int .i64 jb, .int .i64 tr, .int .i64 wk, .int .i64 tm, .int .i64 0, .int .i64 a1, .int .i64 a2, .int .i64 0, .int .i64 0, .int .i64 0, .int .i64 0] (by kernel_rfl) ?_)
          refine (job_sl bt T' jb _ (H4.out.eq (by ac_rfl : _ = tab bt T' * (bl (w3.heap.size + 1) 125 [.int .i64 ep2, .int .i64 kd, .int .i64 nw, .int .i64 jb, .int .i64 tr, .int .i64 wk, .int .i64 tm, .int .i64 0, .int .i64 a1, .int .i64 a2, .int .i64 0, .int .i64 0, .int .i64 0, .int .i64 0] * (bl w3.heap.size 88 [.int .i64 0, .int .i64 a1, .int .i64 a2] * (bl gr 103 [.int .i64 ep2, .int .i64 kd, .int .i64 nw, .int .i64 jb, .int .i64 tr, .int .i64 wk, .int .i64 tm] * (sevs u4 acc * (recs (.slice (some ⟨g, off, none⟩) L.length cc) L * old w)))))))).mono ?_
          rw [HJ.out]
          simp only [Job.val, jcells]
          rintro e w5 ⟨rfl, hb5⟩
          have H5 := Lib.hid (H4.out.below hb5); have Q5 := Lib.hid (Q4.out.trans (Quiet.below hb5))
          have ce := H5.out.bl.cells
          have fe := H5.out.bl.frees
          have le := H5.out.bl.lt
          clear hb5 cr lr H4 Q4 H3 Q3
          have h6 := (((H5.out.setB 10 (.int .i64 s1)).setB 11 (.int .i64 s2)).setB 12 (.int .i64 s3)).setB 13 (.int .i64 s4)
          have hn3 := (OwnRow.new ((((w5.setCell ⟨w3.heap.size + 1, 10, none⟩ (.int .i64 s1)).setCell ⟨w3.heap.size + 1, 11, none⟩ (.int .i64 s2)).setCell ⟨w3.heap.size + 1, 12, none⟩ (.int .i64 s3)).setCell ⟨w3.heap.size + 1, 13, none⟩ (.int .i64 s4)) 125 14 1 [.int .i64 ep2, .int .i64 kd, .int .i64 nw, .int .i64 jb, .int .i64 tr, .int .i64 wk, .int .i64 tm, .int .i64 0, .int .i64 a1, .int .i64 a2, .int .i64 s1, .int .i64 s2, .int .i64 s3, .int .i64 s4] rfl (evcells_ones ⟨⟨ep2, ⟨kd, nw, jb, tr, wk, tm⟩⟩, ⟨0, a1, a2⟩, ⟨s1, s2, s3, s4⟩⟩) (by omega)).row
          have ho3 := (h6.alloc (.cells #[.int .i64 ep2, .int .i64 kd, .int .i64 nw, .int .i64 jb, .int .i64 tr, .int .i64 wk, .int .i64 tm, .int .i64 0, .int .i64 a1, .int .i64 a2, .int .i64 s1, .int .i64 s2, .int .i64 s3, .int .i64 s4] 125)).four
          have HN3 := Lib.hid hn3; have HO3 := Lib.hid ho3; have QO3 := Lib.hid (((((Q5.out.setCell ⟨w3.heap.size + 1, 10, none⟩ (.int .i64 s1)).setCell ⟨w3.heap.size + 1, 11, none⟩ (.int .i64 s2)).setCell ⟨w3.heap.size + 1, 12, none⟩ (.int .i64 s3)).setCell ⟨w3.heap.size + 1, 13, none⟩ (.int .i64 s4)).alloc (.cells #[.int .i64 ep2, .int .i64 kd, .int .i64 nw, .int .i64 jb, .int .i64 tr, .int .i64 wk, .int .i64 tm, .int .i64 0, .int .i64 a1, .int .i64 a2, .int .i64 s1, .int .i64 s2, .int .i64 s3, .int .i64 s4] 125)); clear hn3 ho3 h6
          simp only [World.size_setCell] at HN3
          go_wp2_with (first | (refine wpList_built rfl 125 _ rfl [.int .i64 ep2, .int .i64 kd, .int .i64 nw, .int .i64 jb, .int .i64 tr, .int .i64 wk, .int .i64 tm, .int .i64 0, .int .i64 a1, .int .i64 a2, .int .i64 0, .int .i64 0, .int .i64 0, .int .i64 0] (by kernel_rfl) ?_) | (at_builtin; refine wpList_append_sl rfl _ _ 123 rfl 125 i0 _ 14 112 Tryz.underlying123 HI.out HZ0.out HZ1.out HZ2.out rfl (by decide) rfl rfl HO3.out HN3.out rfl (evcells_ones ⟨⟨ep2, ⟨kd, nw, jb, tr, wk, tm⟩⟩, ⟨0, a1, a2⟩, ⟨s1, s2, s3, s4⟩⟩) (by omega) (by omega) ?_; intro v' w' hv' hq'; have HV' := Lib.hid hv'; have HQ' := Lib.hid hq'; clear hv' hq'))
          go_roundw
          case rel => exact ⟨k + 1, by omega, by go_num, by rw [hev.out, hrun.out]; exact (ev_fit acc ⟨⟨ep2, ⟨kd, nw, jb, tr, wk, tm⟩⟩, ⟨0, a1, a2⟩, ⟨s1, s2, s3, s4⟩⟩ (HV'.out.eq (by ac_rfl : _ = bl (w3.heap.size + 1) 125 _ * (bl w3.heap.size 88 _ * (bl gr 103 _ * (rw_ 125 14 v' (acc.length + 1) (evvs acc ++ evcells ⟨⟨ep2, ⟨kd, nw, jb, tr, wk, tm⟩⟩, ⟨0, a1, a2⟩, ⟨s1, s2, s3, s4⟩⟩) * (recs (.slice (some ⟨g, off, none⟩) L.length cc) L * (tab bt T' * old w)))))) ).right.right.right), QO3.out.trans HQ'.out⟩
          case measure => simp [intOf]; omega
      · have hc2 : (a0 == 0) = false := by simpa using hc
        rw [if_neg hc] at hev
        clear hc
        by_cases h2 : kd = 2
        · subst h2
          have hn3 := (OwnRow.new ((w3.alloc (.cells #[.int .i64 a0, .int .i64 a1, .int .i64 a2] 88)).alloc (.cells #[.int .i64 ep2, .int .i64 2, .int .i64 nw, .int .i64 jb, .int .i64 tr, .int .i64 wk, .int .i64 tm, .int .i64 a0, .int .i64 a1, .int .i64 a2, .int .i64 0, .int .i64 0, .int .i64 0, .int .i64 0] 125)) 125 14 1 [.int .i64 ep2, .int .i64 2, .int .i64 nw, .int .i64 jb, .int .i64 tr, .int .i64 wk, .int .i64 tm, .int .i64 a0, .int .i64 a1, .int .i64 a2, .int .i64 0, .int .i64 0, .int .i64 0, .int .i64 0] rfl (evcells_ones ⟨⟨ep2, ⟨2, nw, jb, tr, wk, tm⟩⟩, ⟨a0, a1, a2⟩, Job.zero⟩) (by omega)).row
          have ho3 := (H4.out.alloc (.cells #[.int .i64 ep2, .int .i64 2, .int .i64 nw, .int .i64 jb, .int .i64 tr, .int .i64 wk, .int .i64 tm, .int .i64 a0, .int .i64 a1, .int .i64 a2, .int .i64 0, .int .i64 0, .int .i64 0, .int .i64 0] 125)).four
          have HN3 := Lib.hid hn3; have HO3 := Lib.hid ho3; have QO3 := Lib.hid (Q4.out.alloc (.cells #[.int .i64 ep2, .int .i64 2, .int .i64 nw, .int .i64 jb, .int .i64 tr, .int .i64 wk, .int .i64 tm, .int .i64 a0, .int .i64 a1, .int .i64 a2, .int .i64 0, .int .i64 0, .int .i64 0, .int .i64 0] 125)); clear hn3 ho3
          simp only [World.size_alloc] at HN3
          go_wp2_with (first | (refine wpList_built rfl 125 _ rfl [.int .i64 ep2, .int .i64 2, .int .i64 nw, .int .i64 jb, .int .i64 tr, .int .i64 wk, .int .i64 tm, .int .i64 a0, .int .i64 a1, .int .i64 a2, .int .i64 0, .int .i64 0, .int .i64 0, .int .i64 0] (by kernel_rfl) ?_) | (at_builtin; refine wpList_append_sl rfl _ _ 123 rfl 125 i0 _ 14 112 Tryz.underlying123 HI.out HZ0.out HZ1.out HZ2.out rfl (by decide) rfl rfl HO3.out HN3.out rfl (evcells_ones ⟨⟨ep2, ⟨2, nw, jb, tr, wk, tm⟩⟩, ⟨a0, a1, a2⟩, Job.zero⟩) (by omega) (by omega) ?_; intro v' w' hv' hq'; have HV' := Lib.hid hv'; have HQ' := Lib.hid hq'; clear hv' hq'))
          go_roundw
          case rel => exact ⟨k + 1, by omega, by go_num, by rw [hev.out, hrun.out]; exact (ev_fit acc ⟨⟨ep2, ⟨2, nw, jb, tr, wk, tm⟩⟩, ⟨a0, a1, a2⟩, Job.zero⟩ (HV'.out.eq (by ac_rfl : _ = bl (w3.heap.size + 1) 125 _ * (bl w3.heap.size 88 _ * (bl gr 103 _ * (rw_ 125 14 v' (acc.length + 1) (evvs acc ++ evcells ⟨⟨ep2, ⟨2, nw, jb, tr, wk, tm⟩⟩, ⟨a0, a1, a2⟩, Job.zero⟩) * (recs (.slice (some ⟨g, off, none⟩) L.length cc) L * (tab bt T' * old w)))))) ).right.right.right), QO3.out.trans HQ'.out⟩
          case measure => simp [intOf]; omega
        · have hk2 : (kd == 2) = false := by simpa using h2
          clear h2
          have hn3 := (OwnRow.new ((w3.alloc (.cells #[.int .i64 a0, .int .i64 a1, .int .i64 a2] 88)).alloc (.cells #[.int .i64 ep2, .int .i64 kd, .int .i64 nw, .int .i64 jb, .int .i64 tr, .int .i64 wk, .int .i64 tm, .int .i64 a0, .int .i64 a1, .int .i64 a2, .int .i64 0, .int .i64 0, .int .i64 0, .int .i64 0] 125)) 125 14 1 [.int .i64 ep2, .int .i64 kd, .int .i64 nw, .int .i64 jb, .int .i64 tr, .int .i64 wk, .int .i64 tm, .int .i64 a0, .int .i64 a1, .int .i64 a2, .int .i64 0, .int .i64 0, .int .i64 0, .int .i64 0] rfl (evcells_ones ⟨⟨ep2, ⟨kd, nw, jb, tr, wk, tm⟩⟩, ⟨a0, a1, a2⟩, Job.zero⟩) (by omega)).row
          have ho3 := (H4.out.alloc (.cells #[.int .i64 ep2, .int .i64 kd, .int .i64 nw, .int .i64 jb, .int .i64 tr, .int .i64 wk, .int .i64 tm, .int .i64 a0, .int .i64 a1, .int .i64 a2, .int .i64 0, .int .i64 0, .int .i64 0, .int .i64 0] 125)).four
          have HN3 := Lib.hid hn3; have HO3 := Lib.hid ho3; have QO3 := Lib.hid (Q4.out.alloc (.cells #[.int .i64 ep2, .int .i64 kd, .int .i64 nw, .int .i64 jb, .int .i64 tr, .int .i64 wk, .int .i64 tm, .int .i64 a0, .int .i64 a1, .int .i64 a2, .int .i64 0, .int .i64 0, .int .i64 0, .int .i64 0] 125)); clear hn3 ho3
          simp only [World.size_alloc] at HN3
          go_wp2_with (first | (refine wpList_built rfl 125 _ rfl [.int .i64 ep2, .int .i64 kd, .int .i64 nw, .int .i64 jb, .int .i64 tr, .int .i64 wk, .int .i64 tm, .int .i64 a0, .int .i64 a1, .int .i64 a2, .int .i64 0, .int .i64 0, .int .i64 0, .int .i64 0] (by kernel_rfl) ?_) | (at_builtin; refine wpList_append_sl rfl _ _ 123 rfl 125 i0 _ 14 112 Tryz.underlying123 HI.out HZ0.out HZ1.out HZ2.out rfl (by decide) rfl rfl HO3.out HN3.out rfl (evcells_ones ⟨⟨ep2, ⟨kd, nw, jb, tr, wk, tm⟩⟩, ⟨a0, a1, a2⟩, Job.zero⟩) (by omega) (by omega) ?_; intro v' w' hv' hq'; have HV' := Lib.hid hv'; have HQ' := Lib.hid hq'; clear hv' hq'))
          go_roundw
          case rel => exact ⟨k + 1, by omega, by go_num, by rw [hev.out, hrun.out]; exact (ev_fit acc ⟨⟨ep2, ⟨kd, nw, jb, tr, wk, tm⟩⟩, ⟨a0, a1, a2⟩, Job.zero⟩ (HV'.out.eq (by ac_rfl : _ = bl (w3.heap.size + 1) 125 _ * (bl w3.heap.size 88 _ * (bl gr 103 _ * (rw_ 125 14 v' (acc.length + 1) (evvs acc ++ evcells ⟨⟨ep2, ⟨kd, nw, jb, tr, wk, tm⟩⟩, ⟨a0, a1, a2⟩, Job.zero⟩) * (recs (.slice (some ⟨g, off, none⟩) L.length cc) L * (tab bt T' * old w)))))) ).right.right.right), QO3.out.trans HQ'.out⟩
          case measure => simp [intOf]; omega
    · obtain rfl : k = L.length := by omega
      go_wp2
      go_ret
      exact ⟨_, rfl, hq, by rw [List.take_length] at hh; exact (hh.eq (by ac_rfl : _ = recs (.slice a L.length cc) L * (tab bt (runL Tbl.zero L) * (sevs u4 (evs Tbl.zero L) * old w)))).right.right⟩
theorem of_sl (v : Value) (b : List UInt8) (w : World) (h : BytesAt w v b) (hl : b.length ≤ 100000) {R : HP} (hr : Holds w R) : Calls Tryz.prog 54 #[v] w (PostX w R (fun v => v) fun v => sevs v (evs Tbl.zero (allB b))) :=
  (of_any v b w h hl).mono fun e w' ⟨x, he, hq, hh⟩ => ⟨x, he, hq, hh.frame hr⟩
end Go.Proofs.YtfihmpkkpgmdhaaGreatDoor

/-
  What comes in: steps; the first of records.
-/
namespace Go.Proofs.YtfihmpkkpgmdhaaGreatDoor
set_option linter.unusedSimpArgs false
set_option linter.unusedVariables false
open Go.RowKit Go.ChangeShapes Go.WideShapes Go.Deep
def Stp.ints (r : Stp) : List Int := [r.kind, r.n, r.keep, r.o.kind, r.o.now, r.o.job, r.o.tr, r.o.wk, r.o.tm]
def stcells (r : Stp) : List Value := ivs r.ints
def svs (l : List Stp) : List Value := l.flatMap stcells
theorem stcells_length (r : Stp) : (stcells r).length = 9 := rfl
theorem svs_get (l : List Stp) : ∀ (i j : Nat), j < 9 → (svs l)[i * 9 + j]? = (l[i]?).bind fun r => (stcells r)[j]? := by
  induction l with
  | nil => intro i j _; simp [svs]
  | cons r l ih =>
    intro i j hj
    have e : svs (r :: l) = stcells r ++ svs l := by simp [svs]
    rw [e]
    cases i with
    | zero => rw [List.getElem?_append_left (by rw [stcells_length]; omega)]; simp
    | succ i =>
      rw [List.getElem?_append_right (by rw [stcells_length]; omega), stcells_length, show (i + 1) * 9 + j - 9 = i * 9 + j by omega, ih i j hj]
      simp
theorem svs_cell {w : World} {g off : Nat} {l : List Stp} (h : ∀ j u, (svs l)[j]? = some u → w.cell? ⟨g, off + j, none⟩ = some u) {i : Nat} {r : Stp} (hi : l[i]? = some r) (j : Nat) (u : Value) (hj : j < 9) (hu : (stcells r)[j]? = some u) : w.cell? ⟨g, off + i * 9 + j, none⟩ = some u := by
  rw [Nat.add_assoc]
  refine h _ _ ?_
  rw [svs_get l i j hj, hi]
  exact hu
/-- A step that came in, in any world where all that there was stands. -/
theorem stp_cells {w : World} {g off n c : Nat} {l : List Stp} (h : RowAt w (.slice (some ⟨g, off, none⟩) n c) l.length (svs l)) {i : Nat} {o : Stp} (hi : l[i]? = some o) {W : World} {A : HP} (hW : Holds W (A * old w)) :
    W.cell? ⟨g, off + i * 9, none⟩ = some (.int .i64 o.kind) ∧ W.cell? ⟨g, off + i * 9 + 1, none⟩ = some (.int .i64 o.n) ∧ W.cell? ⟨g, off + i * 9 + 2, none⟩ = some (.int .i64 o.keep) ∧ W.cell? ⟨g, off + i * 9 + 3, none⟩ = some (.int .i64 o.o.kind) ∧ W.cell? ⟨g, off + i * 9 + 4, none⟩ = some (.int .i64 o.o.now) ∧ W.cell? ⟨g, off + i * 9 + 5, none⟩ = some (.int .i64 o.o.job) ∧ W.cell? ⟨g, off + i * 9 + 6, none⟩ = some (.int .i64 o.o.tr) ∧ W.cell? ⟨g, off + i * 9 + 7, none⟩ = some (.int .i64 o.o.wk) ∧ W.cell? ⟨g, off + i * 9 + 8, none⟩ = some (.int .i64 o.o.tm) := by
  have hl : l.length ≠ 0 := by
    intro e
    have := (List.getElem?_eq_some_iff.1 hi).1
    omega
  obtain ⟨g', off', c', e, _, _, hc⟩ := (h.old hW).get hl
  simp only [Value.slice.injEq, Option.some.injEq, Addr.mk.injEq, and_true] at e
  obtain ⟨⟨rfl, rfl⟩, _, rfl⟩ := e
  exact ⟨svs_cell hc hi 0 _ (by omega) rfl, svs_cell hc hi 1 _ (by omega) rfl, svs_cell hc hi 2 _ (by omega) rfl, svs_cell hc hi 3 _ (by omega) rfl, svs_cell hc hi 4 _ (by omega) rfl, svs_cell hc hi 5 _ (by omega) rfl, svs_cell hc hi 6 _ (by omega) rfl, svs_cell hc hi 7 _ (by omega) rfl, svs_cell hc hi 8 _ (by omega) rfl⟩
theorem stp_of {z : List Int} (h : z.length = 9) : ∃ r : Stp, z = r.ints := by
  match z, h with
  | [a, b, c, d, e, f, g, i, j], _ => exact ⟨⟨a, b, c, ⟨d, e, f, g, i, j⟩⟩, rfl⟩
theorem stps_of : ∀ (zs : List (List Int)), (∀ z ∈ zs, z.length = 9) → ∃ l : List Stp, zs = l.map Stp.ints
  | [], _ => ⟨[], rfl⟩
  | z :: zs, h => by
    obtain ⟨r, rfl⟩ := stp_of (h z (by simp))
    obtain ⟨l, rfl⟩ := stps_of zs fun z hz => h z (by simp [hz])
    exact ⟨r :: l, rfl⟩
theorem stps_cells (l : List Stp) : (l.map Stp.ints).flatMap ivs = svs l := by
  induction l with
  | nil => rfl
  | cons r l ih => simp only [List.map_cons, List.flatMap_cons, ih]; rfl
theorem recs_take {w : World} {a : Option Addr} {n c : Nat} {l : List Rec} (h : RowAt w (.slice a n c) l.length (rvs l)) {q : Nat} (hq : q ≤ l.length) : RowAt w (.slice a q c) (l.take q).length (rvs (l.take q)) := by
  obtain ⟨a', c', e, h1, h2, h3, h4⟩ := h
  simp only [Value.slice.injEq] at e
  obtain ⟨rfl, _, rfl⟩ := e
  have hl : (l.take q).length = q := by simp; omega
  refine ⟨a, c, by rw [hl], by omega, h2, h3, fun hne => ?_⟩
  obtain ⟨g, off, rfl, h5⟩ := h4 (by omega)
  refine ⟨g, off, rfl, fun j u hu => h5 j u ?_⟩
  have e : rvs l = rvs (l.take q) ++ rvs (l.drop q) := by rw [← rvs_append, List.take_append_drop]
  rw [e, List.getElem?_append_left (List.getElem?_eq_some_iff.1 hu).1]
  exact hu
end Go.Proofs.YtfihmpkkpgmdhaaGreatDoor

/-
  The story, walked: Table, Holders.
-/
namespace Go.Proofs.YtfihmpkkpgmdhaaGreatDoor
set_option linter.unusedSimpArgs false
set_option linter.unusedVariables false
open Go.RowKit
theorem Tryz.infoPair : (Tryz.prog.info? 128).map (fun i => (i.zero, i.size, i.bytes)) = some (some (.agg #[.int .i64 0, .int .i64 0]), 2, 16) := by kernel_rfl
def hvs (l : List (Int × Int)) : List Value := l.flatMap fun p => [.int .i64 p.1, .int .i64 p.2]
theorem hvs_append (l m : List (Int × Int)) : hvs (l ++ m) = hvs l ++ hvs m := by simp [hvs]
theorem hvs_get (l : List (Int × Int)) : ∀ (i : Nat) (p : Int × Int), l[i]? = some p → (hvs l)[i * 2]? = some (.int .i64 p.1) ∧ (hvs l)[i * 2 + 1]? = some (.int .i64 p.2) := by
  induction l with
  | nil => intro i p h; simp at h
  | cons q l ih =>
    intro i p h
    have e : hvs (q :: l) = [.int .i64 q.1, .int .i64 q.2] ++ hvs l := by simp [hvs]
    rw [e]
    cases i with
    | zero => simp at h; subst h; simp
    | succ i =>
      simp only [List.getElem?_cons_succ] at h
      obtain ⟨h1, h2⟩ := ih i p h
      rw [List.getElem?_append_right (by simp; omega), List.getElem?_append_right (by simp; omega)]
      simp only [List.length_cons, List.length_nil]
      rw [show (i + 1) * 2 - (0 + 1 + 1) = i * 2 by omega, show (i + 1) * 2 + 1 - (0 + 1 + 1) = i * 2 + 1 by omega]
      exact ⟨h1, h2⟩
def hold (v : Value) (l : List (Int × Int)) : HP := rw_ 128 2 v l.length (hvs l)
theorem holders_step {E : List Ev} {k : Nat} {e : Ev} (h : E[k]? = some e) (j : Int) : holders (E.take (k + 1)) j = holders (E.take k) j ++ (if e.has j then [(e.r.o.wk, e.a.tr)] else []) := by
  have hl := (List.getElem?_eq_some_iff.1 h).1
  rw [List.take_succ_eq_append_getElem hl, (List.getElem?_eq_some_iff.1 h).2]
  unfold holders
  rw [List.filter_append, List.map_append]
  congr 1
  by_cases hh : e.has j = true
  · simp [hh]
  · simp [hh]
theorem clip_any (v : Value) (n : Nat) (xs : List Value) (w : World) (h : OwnRow w 128 2 v n xs) :
    Calls Tryz.prog 80 #[v] w fun e w' => ∃ v', e = .returned v' ∧ w = w' ∧ OwnRow w 128 2 v' n xs ∧ v'.ownBlock = v.ownBlock := by
  obtain ⟨h1, h2, h3⟩ := h
  rcases h3 with ⟨rfl, rfl⟩ | ⟨g, cap, cur, rfl, hb, k1, k2, k3, k4⟩
  · go_enter Tryz.func80, Tryz.ntmps80
    go_wp2
    go_ret
    exact ⟨_, rfl, rfl, ⟨h1, h2, .inl ⟨rfl, rfl⟩⟩, rfl⟩
  · go_enter Tryz.func80, Tryz.ntmps80
    go_wp2
    go_ret
    exact ⟨_, rfl, rfl, ⟨h1, h2, .inr ⟨g, n, cur, rfl, hb, Nat.le_refl _, by omega, by omega, k4⟩⟩, rfl⟩
end Go.Proofs.YtfihmpkkpgmdhaaGreatDoor

/-
  The story, walked: Holders.
-/
namespace Go.Proofs.YtfihmpkkpgmdhaaGreatDoor
set_option linter.unusedSimpArgs false
set_option linter.unusedVariables false
open Go.RowKit
theorem Holds.reOwn {w : World} {e : TypeId} {s n : Nat} {v v' : Value} {xs : List Value} {R : HP} (h : Holds w (rw_ e s v n xs * R)) (h2 : OwnRow w e s v' n xs) (h3 : v'.ownBlock = v.ownBlock) : Holds w (rw_ e s v' n xs * R) :=
  h.imp fun F ⟨_, hF⟩ => ⟨h2, by rw [hF, h3]⟩
theorem Holds.nilH {w : World} {A : HP} (h : Holds w A) : Holds w (hold (.slice none 0 0) [] * A) := h.nilRow _ _
theorem evvs_cell0 {w : World} {g off : Nat} {l : List Ev} (h : ∀ j u, (evvs l)[j]? = some u → w.cell? ⟨g, off + j, none⟩ = some u) {i : Nat} {r : Ev} (hi : l[i]? = some r) : w.cell? ⟨g, off + i * 14, none⟩ = some (.int .i64 r.r.ep) := by
  have := evvs_cell h hi 0 _ (by omega) rfl
  rwa [Nat.add_zero] at this
set_option maxRecDepth 100000 in
set_option maxHeartbeats 8000000 in
theorem holders_any (v : Value) (E : List Ev) (j : Int) (w : World) (h : RowAt w v E.length (evvs E)) (hl : E.length ≤ 20000) : Calls Tryz.prog 55 #[v, .int .i64 j] w (PostX w (old w) (fun v => v) fun v => hold v (holders E j)) := by
  obtain ⟨a, cc, rfl, -, -⟩ := h.shape
  have HV := Lib.hid h; clear h
  obtain ⟨i0, hi, hz0, hz1, hz2⟩ := info_parts Tryz.infoPair
  have HI := Lib.hid hi; have HZ0 := Lib.hid hz0; have HZ1 := Lib.hid hz1; have HZ2 := Lib.hid hz2
  clear hi hz0 hz1 hz2
  go_enter Tryz.func55, Tryz.ntmps55
  go_wp2_with fail
  go_loopw [5, 10] (fun s i wr => ∃ k : Nat, k ≤ E.length ∧ i = .int .i64 k ∧ Holds wr (hold s (holders (E.take k) j) * old w) ∧ Quiet w wr) (fun _ i _ => E.length - (intOf i).toNat)
  case atStart => exact ⟨0, by omega, rfl, Holds.old.nilH, Quiet.refl _⟩
  case round =>
    obtain ⟨k, hk, rfl, hh, hq⟩ := hrel
    have HK := Lib.hid hk
    by_cases hlt : k < E.length
    · obtain ⟨r, hr⟩ : ∃ r, E[k]? = some r := ⟨_, List.getElem?_eq_getElem hlt⟩
      obtain ⟨g, off, cx, e, _, _, hc0⟩ := (HV.out.old hh).get (by omega)
      simp only [Value.slice.injEq] at e
      obtain ⟨rfl, _, rfl⟩ := e
      have hst := holders_step hr j
      obtain ⟨acc, hacc⟩ : ∃ acc, holders (E.take k) j = acc := ⟨_, rfl⟩
      have hal : acc.length ≤ 20000 := by rw [← hacc]; unfold holders; rw [List.length_map]; have := List.length_filter_le (fun e : Ev => e.has j) (E.take k); rw [List.length_take] at this; omega
      rw [hacc] at hh hst
      obtain ⟨⟨ep2, ⟨kd, nw, jb, tr, wk, tm⟩⟩, ⟨a0, a1, a2⟩, ⟨s1, s2, s3, s4⟩⟩ := r
      have y0 := evvs_cell0 hc0 hr
      have y1 := evvs_cell hc0 hr 1 _ (by omega) rfl
      have y2 := evvs_cell hc0 hr 2 _ (by omega) rfl
      have y3 := evvs_cell hc0 hr 3 _ (by omega) rfl
      have y4 := evvs_cell hc0 hr 4 _ (by omega) rfl
      have y5 := evvs_cell hc0 hr 5 _ (by omega) rfl
      have y6 := evvs_cell hc0 hr 6 _ (by omega) rfl
      have y7 := evvs_cell hc0 hr 7 _ (by omega) rfl
      have y8 := evvs_cell hc0 hr 8 _ (by omega) rfl
      have y9 := evvs_cell hc0 hr 9 _ (by omega) rfl
      have y10 := evvs_cell hc0 hr 10 _ (by omega) rfl
      have y11 := evvs_cell hc0 hr 11 _ (by omega) rfl
      have y12 := evvs_cell hc0 hr 12 _ (by omega) rfl
      have y13 := evvs_cell hc0 hr 13 _ (by omega) rfl
      dsimp only at y0 y1 y2 y3 y4 y5 y6 y7 y8 y9 y10 y11 y12 y13
      simp only [Ev.has] at hst
      have HST := Lib.hid hst
      obtain ⟨wo, rfl⟩ : ∃ wo : World, wo = wr := ⟨_, rfl⟩
      have hx := hh.boxB (ty := 125) (cs := [.int .i64 ep2, .int .i64 kd, .int .i64 nw, .int .i64 jb, .int .i64 tr, .int .i64 wk, .int .i64 tm, .int .i64 a0, .int .i64 a1, .int .i64 a2, .int .i64 s1, .int .i64 s2, .int .i64 s3, .int .i64 s4]) rfl
      have HB := Lib.hid hx; have QB := Lib.hid (hq.alloc (.cells ([.int .i64 ep2, .int .i64 kd, .int .i64 nw, .int .i64 jb, .int .i64 tr, .int .i64 wk, .int .i64 tm, .int .i64 a0, .int .i64 a1, .int .i64 a2, .int .i64 s1, .int .i64 s2, .int .i64 s3, .int .i64 s4] : List Value).toArray 125))
      have HH := Lib.hid hh; have HQ := Lib.hid hq
      clear hh hq hr hc0 hx hacc hst
      by_cases h2 : kd = 2
      · subst h2
        by_cases h0 : a0 = 0
        · subst h0
          by_cases h1 : a1 = j
          · subst h1
            have hst := HST.out
            simp only [decide_true, Bool.and_self, if_true] at hst
            have HS := Lib.hid hst
            clear hst HST
            have hn3 := (OwnRow.new (wo.alloc (.cells #[.int .i64 ep2, .int .i64 2, .int .i64 nw, .int .i64 jb, .int .i64 tr, .int .i64 wk, .int .i64 tm, .int .i64 0, .int .i64 a1, .int .i64 a2, .int .i64 s1, .int .i64 s2, .int .i64 s3, .int .i64 s4] 125)) 128 2 1 [.int .i64 wk, .int .i64 a2] rfl (ivs_ones [wk, a2]) (by omega)).row
            have ho3 := (HB.out.alloc (.cells #[.int .i64 wk, .int .i64 a2] 128)).two
            simp only [World.size_alloc] at hn3
            have HN3 := Lib.hid hn3; have HO3 := Lib.hid ho3; have QO3 := Lib.hid (QB.out.alloc (.cells #[.int .i64 wk, .int .i64 a2] 128)); clear hn3 ho3
            have hbj : (a1 == a1) = true := by simp
            go_wp2_with (at_builtin; refine wpList_append_sl rfl _ _ 126 rfl 128 i0 _ 2 16 Tryz.underlying126 HI.out HZ0.out HZ1.out HZ2.out rfl (by decide) rfl rfl HO3.out HN3.out rfl (ivs_ones [wk, a2]) (by omega) (by omega) ?_; intro v' w' hv' hq'; have HV' := Lib.hid hv'; have HQ' := Lib.hid hq'; clear hv' hq')
            go_roundw
            case rel => exact ⟨k + 1, by omega, by go_num, by rw [HS.out]; exact (HV'.out.two.right.eq (by unfold hold; rw [hvs_append, List.length_append]; rfl)), QO3.out.trans HQ'.out⟩
            case measure => simp [intOf]; omega
          · have hbj : (a1 == j) = false := by simpa using h1
            have hst := HST.out
            simp only [h1, decide_true, decide_false, Bool.and_false, Bool.false_eq_true, if_false, List.append_nil] at hst
            have HS := Lib.hid hst
            clear hst HST h1
            go_wp2_with fail
            go_roundw
            case rel => exact ⟨k + 1, by omega, by go_num, by rw [HS.out]; exact HB.out.right, QB.out⟩
            case measure => simp [intOf]; omega
        · have hb0 : (a0 == 0) = false := by simpa using h0
          have hst := HST.out
          simp only [h0, decide_true, decide_false, Bool.and_false, Bool.false_and, Bool.false_eq_true, if_false, List.append_nil] at hst
          have HS := Lib.hid hst
          clear hst HST h0
          go_wp2_with fail
          go_roundw
          case rel => exact ⟨k + 1, by omega, by go_num, by rw [HS.out]; exact HB.out.right, QB.out⟩
          case measure => simp [intOf]; omega
      · have hb2 : (kd == 2) = false := by simpa using h2
        have hst := HST.out
        simp only [h2, decide_false, Bool.false_and, Bool.false_eq_true, if_false, List.append_nil] at hst
        have HS := Lib.hid hst
        clear hst HST h2
        go_wp2_with fail
        go_roundw
        case rel => exact ⟨k + 1, by omega, by go_num, by rw [HS.out]; exact HB.out.right, QB.out⟩
        case measure => simp [intOf]; omega
    · obtain rfl : k = E.length := by omega
      go_wp2_with fail
      refine (clip_any _ _ _ _ hh.own).mono ?_
      rintro e w2 ⟨v', rfl, rfl, ho, hb⟩
      go_wp2
      go_ret
      exact ⟨_, rfl, hq, by rw [List.take_length] at hh ho; exact hh.reOwn ho hb⟩
theorem holders_sl (v : Value) (E : List Ev) (j : Int) (w : World) (h : RowAt w v E.length (evvs E)) (hl : E.length ≤ 20000) {R : HP} (hr : Holds w R) : Calls Tryz.prog 55 #[v, .int .i64 j] w (PostX w R (fun v => v) fun v => hold v (holders E j)) :=
  (holders_any v E j w h hl).mono fun e w' ⟨x, he, hq, hh⟩ => ⟨x, he, hq, hh.frame hr⟩
end Go.Proofs.YtfihmpkkpgmdhaaGreatDoor

/-
  A drawn append: what is owned, and a row behind it.
-/
namespace Go.Proofs.YtfihmpkkpgmdhaaGreatDoor
set_option linter.unusedVariables false
open Go.RowKit
section
variable {P : Program} {ops : Array Oper} {S : World → Prop} {path : List Nat} {Q : Exit → Act → World → Prop}
theorem LexL.append {o : Oper} {i : Nat} {rest : List Oper} {a : Act} {w : World} (s x : Operand) (t : TypeId)
    (ho : o.op = .call { callee := .builtin .append, args := #[s, x], argTypes := #[t, t] })
    (e : TypeId) (ti : TypeInfo) (z : Value) (size bytes : Nat) (ht : P.underlying t = some (.slice e)) (hi : P.info? e = some ti) (hz : ti.zero = some z) (hsz : ti.size = size) (hby : ti.bytes = bytes) (hzs : z.cells.size = size) (hs0 : 0 < size)
    {v y : Value} {n m : Nat} {xs ys : List Value} {R : HP} (hs : a.eval s = v) (hx : a.eval x = y) (hw : Region.wanted o (yielded ops a.tmps) = true) (hp : i ∈ path)
    (hv : Holds w (rw_ e size v n xs * R)) (hy : RowAt w y m ys) (hyl : ys.length = m * size) (hy1 : Ones ys) (hlen : (n + m) * bytes ≤ 140737488355328) (hnm : n + m ≤ 140737488355328)
    (h : ∀ v' w', Holds w' (rw_ e size v' (n + m) (xs ++ ys) * R) → Quiet w w' → S w' ∧ LexL P ops S path Q (i + 1) rest (a.put o.dst v') w') : LexL P ops S path Q i (o :: rest) a w := by
  obtain ⟨F, ⟨hown, rfl⟩, hn⟩ := hv.open
  obtain ⟨v', w', hr, h2, h3, h4⟩ := run_append_row (P := P) t o.type e ti z size bytes ht hi hz hsz hby hzs hs0 hown hy hyl hy1 hlen hnm
  obtain ⟨hS, hl⟩ := h v' w' (hn w' _ _ ⟨h2, rfl⟩ h3 h4) (Quiet.upd h3)
  refine LexL.value (w1 := w') (v := v') hw hp ?_ hS hl
  unfold execOp
  simp only [ho, resolve, invoke, builtin, Sem.run_bind, Sem.run_pure, Result.andThen_ok, List.map_toArray, List.map_cons, List.map_nil, hs, hx, hr]
end
end Go.Proofs.YtfihmpkkpgmdhaaGreatDoor

/-
  The document's holders, walked; numbers, one behind the other.
-/
namespace Go.Proofs.YtfihmpkkpgmdhaaGreatDoor
set_option linter.unusedSimpArgs false
set_option linter.unusedVariables false
open Go.RowKit
theorem Tryz.infoI64 : (Tryz.prog.info? 3).map (fun i => (i.zero, i.size, i.bytes)) = some (some (.int .i64 0), 1, 8) := by kernel_rfl
/-- A cell of an event that came in, in any world where all that there was stands. -/
theorem ev_old_cell {w : World} {g off n c : Nat} {E : List Ev} (h : RowAt w (.slice (some ⟨g, off, none⟩) n c) E.length (evvs E)) {i : Nat} {r : Ev} (hi : E[i]? = some r) {W : World} {A : HP} (hW : Holds W (A * old w)) (j : Nat) (u : Value) (hj : j < 14) (hu : (evcells r)[j]? = some u) : W.cell? ⟨g, off + i * 14 + j, none⟩ = some u := by
  have hl : E.length ≠ 0 := by
    intro e
    have := (List.getElem?_eq_some_iff.1 hi).1
    omega
  obtain ⟨g', off', c', e, _, _, hc⟩ := (h.old hW).get hl
  simp only [Value.slice.injEq, Option.some.injEq, Addr.mk.injEq, and_true] at e
  obtain ⟨⟨rfl, rfl⟩, _, rfl⟩ := e
  exact evvs_cell hc hi j u hj hu
theorem hvs_length (l : List (Int × Int)) : (hvs l).length = 2 * l.length := by
  induction l with
  | nil => rfl
  | cons p l ih => simp only [hvs, List.flatMap_cons, List.length_append, List.length_cons, List.length_nil] at *; omega
def hint (v : Value) (l : List (Int × Int)) : HP := rw_ 3 1 v (2 * l.length) (hvs l)
theorem Holds.nilI {w : World} {A : HP} (h : Holds w A) : Holds w (hint (.slice none 0 0) [] * A) := h.nilRow _ _
theorem hint_fit {w : World} {v : Value} {R : HP} (acc : List (Int × Int)) (a b : Int) (h : Holds w (rw_ 3 1 v (2 * acc.length + 2) (hvs acc ++ [.int .i64 a, .int .i64 b]) * R)) : Holds w (hint v (acc ++ [(a, b)]) * R) := by
  unfold hint
  rw [hvs_append, List.length_append]
  exact h
set_option maxRecDepth 100000 in
set_option maxHeartbeats 8000000 in
theorem holdersOf_any (v : Value) (E : List Ev) (j : Int) (w : World) (h : RowAt w v E.length (evvs E)) (hl : E.length ≤ 20000) : Calls Tryz.prog 38 #[v, .int .i64 j] w (PostX w (old w) (fun v => v) fun v => hint v (holders E j)) := by
  obtain ⟨a, cc, rfl, -, -⟩ := h.shape
  have HV := Lib.hid h; clear h
  obtain ⟨i0, hi, hz0, hz1, hz2⟩ := info_parts Tryz.infoI64
  have HI := Lib.hid hi; have HZ0 := Lib.hid hz0; have HZ1 := Lib.hid hz1; have HZ2 := Lib.hid hz2
  clear hi hz0 hz1 hz2
  go_enter Tryz.func38, Tryz.ntmps38
  go_wp2_with fail
  go_loopw [5, 6] (fun s i wr => ∃ k : Nat, k ≤ E.length ∧ i = .int .i64 k ∧ Holds wr (hint s (holders (E.take k) j) * old w) ∧ Quiet w wr) (fun _ i _ => E.length - (intOf i).toNat)
  case atStart => exact ⟨0, by omega, rfl, Holds.old.nilI, Quiet.refl _⟩
  case round =>
    obtain ⟨k, hk, rfl, hh, hq⟩ := hrel
    have HK := Lib.hid hk
    by_cases hlt : k < E.length
    · obtain ⟨r, hr⟩ : ∃ r, E[k]? = some r := ⟨_, List.getElem?_eq_getElem hlt⟩
      obtain ⟨g, off, cx, e, _, _, hc0⟩ := (HV.out.old hh).get (by omega)
      simp only [Value.slice.injEq] at e
      obtain ⟨rfl, _, rfl⟩ := e
      have hst := holders_step hr j
      obtain ⟨acc, hacc⟩ : ∃ acc, holders (E.take k) j = acc := ⟨_, rfl⟩
      have hal : acc.length ≤ 20000 := by rw [← hacc]; unfold holders; rw [List.length_map]; have := List.length_filter_le (fun e : Ev => e.has j) (E.take k); rw [List.length_take] at this; omega
      rw [hacc] at hh hst
      obtain ⟨⟨ep2, ⟨kd, nw, jb, tr, wk, tm⟩⟩, ⟨a0, a1, a2⟩, ⟨s1, s2, s3, s4⟩⟩ := r
      have y1 := evvs_cell hc0 hr 1 (.int .i64 kd) (by omega) rfl
      have y7 := evvs_cell hc0 hr 7 (.int .i64 a0) (by omega) rfl
      have y8 := evvs_cell hc0 hr 8 (.int .i64 a1) (by omega) rfl
      have mkS : ∀ (W : World) (A : HP), Holds W (A * old w) → W.cell? ⟨g, off + k * 14 + 5, none⟩ = some (.int .i64 wk) ∧ W.cell? ⟨g, off + k * 14 + 9, none⟩ = some (.int .i64 a2) := fun W A hW =>
        ⟨ev_old_cell HV.out hr hW 5 _ (by omega) rfl, ev_old_cell HV.out hr hW 9 _ (by omega) rfl⟩
      have MKS := Lib.hid mkS
      simp only [Ev.has] at hst
      have HST := Lib.hid hst
      obtain ⟨wo, rfl⟩ : ∃ wo : World, wo = wr := ⟨_, rfl⟩
      have HH := Lib.hid hh; have HQ := Lib.hid hq
      clear hh hq hr hc0 hacc hst mkS
      by_cases h2 : kd = 2
      · subst h2
        by_cases h0 : a0 = 0
        · subst h0
          by_cases h1 : a1 = j
          · subst h1
            have hst := HST.out
            simp only [decide_true, Bool.and_self, if_true] at hst
            have HS := Lib.hid hst
            clear hst HST
            have hbj : (a1 == a1) = true := by simp
            go_wp2_with fail
            refine wp_region_lex (fun W => W.cell? ⟨g, off + k * 14 + 5, none⟩ = some (.int .i64 wk) ∧ W.cell? ⟨g, off + k * 14 + 9, none⟩ = some (.int .i64 a2)) [14, 15] (by kernel_rfl) (by kernel_rfl) (MKS.out _ _ HH.out.drew) ?_
            repeat (first | (refine LexL.none (by rfl) ?_; (try simp only [Act.put, List.setIfInBounds_toArray, List.set_cons_zero, List.set_cons_succ])) | (refine LexL.still (v := ?_) (by rfl) ?_ ?_; rotate_left; (focus (intro W hW; (try dsimp only at hW); go_simp; (try (with_reducible rfl)); done)); (try simp only [Act.put, List.setIfInBounds_toArray, List.set_cons_zero, List.set_cons_succ])))
            have hb := HH.out.drew.boxRow (e := 3) 1 (n := 2) (cs := [.int .i64 wk, .int .i64 a2]) rfl (ivs_ones [wk, a2]) (by omega) rfl
            have HBX := Lib.hid hb; clear hb
            refine LexL.value (w1 := wo.drew.alloc (.cells #[.int .i64 wk, .int .i64 a2] 3)) (v := .slice (some ⟨wo.drew.heap.size, 0, none⟩) 2 2) (by rfl) (by decide) (by go_simp) (MKS.out _ _ (HBX.out.eq (HP.assoc _ _ _).symm)) ?_
            try simp only [Act.put, List.setIfInBounds_toArray, List.set_cons_zero, List.set_cons_succ]
            repeat (first | (refine LexL.none (by rfl) ?_; (try simp only [Act.put, List.setIfInBounds_toArray, List.set_cons_zero, List.set_cons_succ])) | (refine LexL.still (v := ?_) (by rfl) ?_ ?_; rotate_left; (focus (intro W hW; (try dsimp only at hW); go_simp; (try (with_reducible rfl)); done)); (try simp only [Act.put, List.setIfInBounds_toArray, List.set_cons_zero, List.set_cons_succ])))
            refine LexL.append _ _ 70 rfl 3 i0 _ 1 8 Tryz.underlying70 HI.out HZ0.out HZ1.out HZ2.out rfl (by decide) rfl rfl (by rfl) (by decide) (HBX.out.two) HBX.out.row rfl (ivs_ones [wk, a2]) (by omega) (by omega) ?_
            intro v' w' hv' hq'
            have HV' := Lib.hid hv'; have HQ' := Lib.hid hq'; clear hv' hq'
            refine ⟨MKS.out _ _ (HV'.out.eq (HP.assoc _ _ _).symm), ?_⟩
            try simp only [Act.put, List.setIfInBounds_toArray, List.set_cons_zero, List.set_cons_succ]
            repeat (first | (refine LexL.none (by rfl) ?_; (try simp only [Act.put, List.setIfInBounds_toArray, List.set_cons_zero, List.set_cons_succ])) | (refine LexL.still (v := ?_) (by rfl) ?_ ?_; rotate_left; (focus (intro W hW; (try dsimp only at hW); go_simp; (try (with_reducible rfl)); done)); (try simp only [Act.put, List.setIfInBounds_toArray, List.set_cons_zero, List.set_cons_succ])))
            refine LexL.done ?_
            go_wp2_with fail
            go_roundw
            case rel => exact ⟨k + 1, by omega, by go_num, by rw [HS.out]; exact (hint_fit acc wk a2 HV'.out).two.right, ((HQ.out.drew.alloc _).trans HQ'.out)⟩
            case measure => simp [intOf]; omega
          · have hbj : (a1 == j) = false := by simpa using h1
            have hst := HST.out
            simp only [h1, decide_true, decide_false, Bool.and_false, Bool.false_eq_true, if_false, List.append_nil] at hst
            have HS := Lib.hid hst
            clear hst HST h1
            go_wp2_with fail
            go_roundw
            case rel => exact ⟨k + 1, by omega, by go_num, by rw [HS.out]; exact HH.out, HQ.out⟩
            case measure => simp [intOf]; omega
        · have hb0 : (a0 == 0) = false := by simpa using h0
          have hst := HST.out
          simp only [h0, decide_true, decide_false, Bool.and_false, Bool.false_and, Bool.false_eq_true, if_false, List.append_nil] at hst
          have HS := Lib.hid hst
          clear hst HST h0
          go_wp2_with fail
          go_roundw
          case rel => exact ⟨k + 1, by omega, by go_num, by rw [HS.out]; exact HH.out, HQ.out⟩
          case measure => simp [intOf]; omega
      · have hb2 : (kd == 2) = false := by simpa using h2
        have hst := HST.out
        simp only [h2, decide_false, Bool.false_and, Bool.false_eq_true, if_false, List.append_nil] at hst
        have HS := Lib.hid hst
        clear hst HST h2
        go_wp2_with fail
        go_roundw
        case rel => exact ⟨k + 1, by omega, by go_num, by rw [HS.out]; exact HH.out, HQ.out⟩
        case measure => simp [intOf]; omega
    · obtain rfl : k = E.length := by omega
      go_wp2
      go_ret
      exact ⟨_, rfl, hq, by rw [List.take_length] at hh; exact hh⟩
theorem holdersOf_sl (v : Value) (E : List Ev) (j : Int) (w : World) (h : RowAt w v E.length (evvs E)) (hl : E.length ≤ 20000) {R : HP} (hr : Holds w R) : Calls Tryz.prog 38 #[v, .int .i64 j] w (PostX w R (fun v => v) fun v => hint v (holders E j)) :=
  (holdersOf_any v E j w h hl).mono fun e w' ⟨x, he, hq, hh⟩ => ⟨x, he, hq, hh.frame hr⟩
end Go.Proofs.YtfihmpkkpgmdhaaGreatDoor

/-
  Numbers of words.
-/
namespace Go.Proofs.YtfihmpkkpgmdhaaGreatDoor
set_option maxRecDepth 100000
set_option linter.unusedSimpArgs false
set_option linter.unusedVariables false
set_option linter.unnecessarySimpa false
open Go.RowKit
theorem below_bytes (w : World) (e : TypeId) (s : ByteArray) : Below w.heap.size w (Lib.bytesWorld w e s) :=
  ⟨by simp [Lib.bytesWorld, World.freeze, World.alloc, World.drew, -World.alloc_eq, -World.drew_eq], by simp [Lib.bytesWorld, World.freeze, World.alloc, World.drew, -World.alloc_eq, -World.drew_eq], by simp [Lib.bytesWorld, World.freeze, World.alloc, World.drew, -World.alloc_eq, -World.drew_eq], by rw [Lib.bytesWorld_size]; omega, fun k hk => Lib.bytesWorld_at_old w e s k hk⟩
theorem atoi_ok (s : List UInt8) (v : Int) (w : World) (hs : s.length ≤ 1000000) (h : Lib.atoiAll s = .ok v) : Calls Tryz.prog 31 #[.string (strOf s)] w fun e w' => e = .returned (.tuple #[.int .i64 v, .nilIface]) ∧ Below w.heap.size w w' := by
  refine (Tryz.strconv_Atoi_ok (strOf s) (by rw [strOf_size]; omega) v (by rw [strOf_data]; exact h) w).mono ?_
  rintro e w' ⟨rfl, rfl | ⟨t, rfl⟩⟩
  · exact ⟨rfl, Below.refl _ _⟩
  · exact ⟨rfl, below_bytes _ _ _⟩
theorem atoi_bad (s : List UInt8) (w : World) (hl : Laid w) (hs : s.length ≤ 1000000) (h : ∀ v, Lib.atoiAll s ≠ .ok v) : Calls Tryz.prog 31 #[.string (strOf s)] w fun e w' => ∃ (v : Int) (t : TypeId) (p : Value), e = .returned (.tuple #[.int .i64 v, .iface t p]) ∧ Below w.heap.size w w' := by
  obtain ⟨-, ⟨t1, p1, h1⟩, ⟨t2, p2, h2⟩, -⟩ := hl
  by_cases hc : Lib.atoiAll s = .range
  · refine (Tryz.strconv_Atoi_range_var (strOf s) (by rw [strOf_size]; omega) (by rw [strOf_data]; exact hc) t2 p2 w h2).mono ?_
    rintro e w' ⟨N, rfl, -, -, hb⟩
    exact ⟨_, _, _, rfl, hb⟩
  · refine (Tryz.strconv_Atoi_bad_var (strOf s) (by rw [strOf_size]; omega) (by rw [strOf_data]; exact h) (by rw [strOf_data]; exact hc) t1 p1 w h1).mono ?_
    rintro e w' ⟨N, rfl, -, -, hb⟩
    exact ⟨_, _, _, rfl, hb⟩
theorem numOf_cases (s : List UInt8) : (∃ v, Lib.atoiAll s = .ok v ∧ Lib.itoa v = s ∧ numOf s = some v) ∨ (∃ v, Lib.atoiAll s = .ok v ∧ Lib.itoa v ≠ s ∧ numOf s = none) ∨ ((∀ v, Lib.atoiAll s ≠ .ok v) ∧ numOf s = none) := by
  unfold numOf
  cases h : Lib.atoiAll s with
  | ok v =>
    by_cases hv : Lib.itoa v = s
    · exact .inl ⟨v, rfl, hv, by simp [hv]⟩
    · exact .inr (.inl ⟨v, rfl, hv, by simp [hv]⟩)
  | _ => exact .inr (.inr ⟨fun v e => (by cases e), rfl⟩)
theorem numsOf_at : ∀ {l : List (List UInt8)} {r : List Int} {k : Nat} {s : List UInt8}, numsOf l = some r → l[k]? = some s → ∃ v, r[k]? = some v ∧ numOf s = some v
  | [], _, _, _, _, h => by simp at h
  | a :: l, r, k, s, h, hk => by
    unfold numsOf at h
    split at h
    · rename_i x y h1 h2
      injection h with h
      subst h
      cases k with
      | zero => simp at hk; subst hk; exact ⟨x, rfl, h1⟩
      | succ k =>
        obtain ⟨v, hv1, hv2⟩ := numsOf_at (k := k) h2 (by simpa using hk)
        exact ⟨v, by simpa using hv1, hv2⟩
    · cases h
def inum (v : Value) (l : List Int) : HP := rw_ 3 1 v l.length (ivs l)
theorem ivs_take (r : List Int) (k : Nat) (v : Int) (h : r[k]? = some v) : ivs (r.take k) ++ [.int .i64 v] = ivs (r.take (k + 1)) := by
  rw [List.take_add_one, h]
  simp [ivs]
theorem ivs_append (a b : List Int) : ivs (a ++ b) = ivs a ++ ivs b := List.map_append
theorem numsOf_none : ∀ {l : List (List UInt8)}, numsOf l = none → ∃ (m : Nat) (s : List UInt8), l[m]? = some s ∧ numOf s = none ∧ ∀ j, j < m → ∀ x, l[j]? = some x → ∃ v, numOf x = some v
  | [], h => by cases h
  | a :: l, h => by
    cases ha : numOf a with
    | none => exact ⟨0, a, rfl, ha, fun j hj => by omega⟩
    | some v =>
      have hl : numsOf l = none := by
        cases hl : numsOf l with
        | none => rfl
        | some r => unfold numsOf at h; rw [ha, hl] at h; cases h
      obtain ⟨m, s, h1, h2, h3⟩ := numsOf_none hl
      refine ⟨m + 1, s, by simpa using h1, h2, fun j hj x hx => ?_⟩
      cases j with
      | zero => simp at hx; subst hx; exact ⟨v, ha⟩
      | succ j => exact h3 j (by omega) x (by simpa using hx)
set_option maxHeartbeats 2000000 in
theorem numbers_ok (v : Value) (l : List (List UInt8)) (r : List Int) (w : World) (hl : Laid w) (hv : RowAt w v l.length (svls l)) (hn : l.length ≤ 100000) (hs : ∀ x ∈ l, x.length ≤ 100000) (hr : numsOf l = some r) :
    Calls Tryz.prog 25 #[v] w (PostX w (old w) (fun v => .tuple #[v, .bool true]) fun v => inum v r) := by
  obtain ⟨a, c, rfl, c1, c2⟩ := hv.shape
  have HV := Lib.hid hv; have HL := Lib.hid hl; have HS := Lib.hid hs; have HR := Lib.hid hr; have HRL := Lib.hid (numsOf_len hr)
  obtain ⟨i0, hi, hz0, hz1, hz2⟩ := info_parts Tryz.infoI64
  have HI := Lib.hid hi; have HZ0 := Lib.hid hz0; have HZ1 := Lib.hid hz1; have HZ2 := Lib.hid hz2
  clear hv hl hs hr hi hz0 hz1 hz2
  go_enter Tryz.func25, Tryz.ntmps25
  go_wp2
  go_loopw [4, 11] (fun s i wr => ∃ k : Nat, k ≤ l.length ∧ i = .int .i64 k ∧ Holds wr (rw_ 3 1 s k (ivs (r.take k)) * old w) ∧ Quiet w wr) (fun _ i _ => l.length - (intOf i).toNat)
  case atStart => exact ⟨0, by omega, rfl, Holds.old.nilRow _ _, Quiet.refl _⟩
  case round =>
    obtain ⟨k, hk, rfl, hh, hq⟩ := hrel
    by_cases hlt : k < l.length
    · obtain ⟨x, hx⟩ : ∃ x, l[k]? = some x := ⟨_, List.getElem?_eq_getElem hlt⟩
      obtain ⟨n, hn1, hn2⟩ := numsOf_at HR.out hx
      have hxl := HS.out x (List.mem_of_getElem? hx)
      have hnb := numOf_bound hn2
      rcases numOf_cases x with ⟨n', ha, rfl, hb⟩ | ⟨_, _, _, hb⟩ | ⟨_, hb⟩
      rotate_left
      · rw [hb] at hn2; cases hn2
      · rw [hb] at hn2; cases hn2
      obtain rfl : n' = n := Option.some.inj (hb.symm.trans hn2)
      obtain ⟨g, off, cx, e, -, -, hc⟩ := (HV.out.old hh).get (by omega)
      simp only [Value.slice.injEq] at e
      obtain ⟨rfl, -, rfl⟩ := e
      have a1 : wr.cell? ⟨g, off + k, none⟩ = some (.string (strOf (Lib.itoa n'))) := hc k _ (svls_get hx)
      have hla : Laid wr := HL.out.to hh.right.block
      obtain ⟨sa, sc, rfl, -, -⟩ := hh.row.shape
      have hst := ivs_take r k n' hn1
      have HH := Lib.hid hh; have HQ := Lib.hid hq; have HLA := Lib.hid hla; have HST := Lib.hid hst; have HA := Lib.hid ha; have HX := Lib.hid hxl
      clear hh hq hla hc hst ha hx hn1 hn2 hb hxl
      obtain ⟨wo, rfl⟩ : ∃ wo : World, wo = wr := ⟨_, rfl⟩
      go_wp2_with fail
      refine (atoi_ok _ n' _ (by have := HX.out; omega) HA.out).mono ?_
      rintro e w1 ⟨rfl, b1⟩
      have B1 := Lib.hid b1; clear b1
      go_wp2_with fail
      refine (num_sl n' _ (HLA.out.below B1.out) hnb).mono ?_
      rintro e w2 ⟨rfl, b2⟩
      have B2 := Lib.hid (B1.out.trans (b2.mono B1.out.size)); clear b2 B1
      have H2 := Lib.hid ((HH.out.below B2.out).alloc (.cells #[.int .i64 n'] 3))
      go_wp2_with (at_builtin; refine wpList_append_sl (n := k) (m := 1) rfl _ _ 70 rfl 3 i0 _ 1 8 Tryz.underlying70 HI.out HZ0.out HZ1.out HZ2.out rfl (by decide) rfl rfl H2.out (ivs_row (l := [n']) rfl (by simp) _ rfl _) rfl (ivs_ones [n']) (by omega) (by omega) ?_; intro v' w3 h3 q3; have H3 := Lib.hid h3; have Q3 := Lib.hid q3; clear h3 q3)
      go_roundw
      case rel => exact ⟨k + 1, by omega, by go_num, by rw [← HST.out]; exact H3.out, (HQ.out.trans (Quiet.below B2.out)).trans (((Quiet.refl _).alloc _).trans Q3.out)⟩
      case measure => simp [intOf]; omega
    · obtain rfl : k = l.length := by omega
      have e : r.take l.length = r := List.take_of_length_le (by rw [HRL.out]; omega)
      rw [e, ← HRL.out] at hh
      go_wp2
      go_ret2
      exact ⟨_, rfl, hq, hh⟩
set_option maxHeartbeats 2000000 in
theorem numbers_bad (v : Value) (l : List (List UInt8)) (w : World) (hl : Laid w) (hv : RowAt w v l.length (svls l)) (hn : l.length ≤ 100000) (hs : ∀ x ∈ l, x.length ≤ 100000) (hr : numsOf l = none) :
    Calls Tryz.prog 25 #[v] w (PostN w (old w) (.tuple #[.slice none 0 0, .bool false])) := by
  obtain ⟨a, c, rfl, c1, c2⟩ := hv.shape
  obtain ⟨m, y, hy, hym, hyb⟩ := numsOf_none hr
  have hml : m < l.length := (List.getElem?_eq_some_iff.1 hy).1
  have HV := Lib.hid hv; have HL := Lib.hid hl; have HS := Lib.hid hs; have HY := Lib.hid hy; have HYM := Lib.hid hym; have HYB := Lib.hid hyb
  obtain ⟨i0, hi, hz0, hz1, hz2⟩ := info_parts Tryz.infoI64
  have HI := Lib.hid hi; have HZ0 := Lib.hid hz0; have HZ1 := Lib.hid hz1; have HZ2 := Lib.hid hz2
  clear hv hl hs hr hy hym hyb hi hz0 hz1 hz2
  go_enter Tryz.func25, Tryz.ntmps25
  go_wp2
  go_loopw [4, 11] (fun s i wr => ∃ (k : Nat) (d : List Int), k ≤ m ∧ i = .int .i64 k ∧ Holds wr (rw_ 3 1 s k (ivs d) * old w) ∧ Quiet w wr) (fun _ i _ => l.length - (intOf i).toNat)
  case atStart => exact ⟨0, [], by omega, rfl, Holds.old.nilRow _ _, Quiet.refl _⟩
  case round =>
    obtain ⟨k, d, hk, rfl, hh, hq⟩ := hrel
    obtain ⟨g, off, cx, e, -, -, hc⟩ := (HV.out.old hh).get (by omega)
    simp only [Value.slice.injEq] at e
    obtain ⟨rfl, -, rfl⟩ := e
    have hla : Laid wr := HL.out.to hh.right.block
    obtain ⟨sa, sc, rfl, -, -⟩ := hh.row.shape
    obtain ⟨wo, rfl⟩ : ∃ wo : World, wo = wr := ⟨_, rfl⟩
    have HH := Lib.hid hh; have HQ := Lib.hid hq; have HLA := Lib.hid hla
    clear hh hq hla
    by_cases hlt : k < m
    · obtain ⟨x, hx⟩ : ∃ x, l[k]? = some x := ⟨_, List.getElem?_eq_getElem (by omega)⟩
      obtain ⟨n, hn2⟩ := HYB.out k hlt x hx
      have hxl := HS.out x (List.mem_of_getElem? hx)
      have hnb := numOf_bound hn2
      rcases numOf_cases x with ⟨n', ha, rfl, hb⟩ | ⟨_, _, _, hb⟩ | ⟨_, hb⟩
      rotate_left
      · rw [hb] at hn2; cases hn2
      · rw [hb] at hn2; cases hn2
      obtain rfl : n' = n := Option.some.inj (hb.symm.trans hn2)
      have a1 : wo.cell? ⟨g, off + k, none⟩ = some (.string (strOf (Lib.itoa n'))) := hc k _ (svls_get hx)
      have HA := Lib.hid ha; have HX := Lib.hid hxl
      clear hc ha hx hn2 hb hxl
      go_wp2_with fail
      refine (atoi_ok _ n' _ (by have := HX.out; omega) HA.out).mono ?_
      rintro e w1 ⟨rfl, b1⟩
      have B1 := Lib.hid b1; clear b1
      go_wp2_with fail
      refine (num_sl n' _ (HLA.out.below B1.out) hnb).mono ?_
      rintro e w2 ⟨rfl, b2⟩
      have B2 := Lib.hid (B1.out.trans (b2.mono B1.out.size)); clear b2 B1
      have H2 := Lib.hid ((HH.out.below B2.out).alloc (.cells #[.int .i64 n'] 3))
      go_wp2_with (at_builtin; refine wpList_append_sl (n := k) (m := 1) rfl _ _ 70 rfl 3 i0 _ 1 8 Tryz.underlying70 HI.out HZ0.out HZ1.out HZ2.out rfl (by decide) rfl rfl H2.out (ivs_row (l := [n']) rfl (by simp) _ rfl _) rfl (ivs_ones [n']) (by omega) (by omega) ?_; intro v' w3 h3 q3; have H3 := Lib.hid h3; have Q3 := Lib.hid q3; clear h3 q3)
      go_roundw
      case rel => exact ⟨k + 1, d ++ [n'], by omega, by go_num, by rw [ivs_append]; exact H3.out, (HQ.out.trans (Quiet.below B2.out)).trans (((Quiet.refl _).alloc _).trans Q3.out)⟩
      case measure => simp [intOf]; omega
    · obtain rfl : k = m := by omega
      have hxl := HS.out y (List.mem_of_getElem? HY.out)
      have a1 : wo.cell? ⟨g, off + k, none⟩ = some (.string (strOf y)) := hc k _ (svls_get HY.out)
      rcases numOf_cases y with ⟨n', _, _, hb⟩ | ⟨n', ha, hne, hb⟩ | ⟨hno, hb⟩
      · rw [hb] at HYM; cases HYM.out
      · have hnb := atoi_bound ha
        have HA := Lib.hid ha
        have hne2 : ((strOf (Lib.itoa n')).toList == (strOf y).toList) = false := by
          rw [beq_eq_false_iff_ne]
          intro e
          apply hne
          rw [ByteArray.toList_eq, ByteArray.toList_eq, strOf_data, strOf_data] at e
          exact e
        clear hc ha hb hne
        go_wp2_with fail
        refine (atoi_ok _ n' _ (by omega) HA.out).mono ?_
        rintro e w1 ⟨rfl, b1⟩
        have B1 := Lib.hid b1; clear b1
        go_wp2_with fail
        refine (num_sl n' _ (HLA.out.below B1.out) hnb).mono ?_
        rintro e w2 ⟨rfl, b2⟩
        have B2 := Lib.hid (B1.out.trans (b2.mono B1.out.size)); clear b2 B1
        go_wp2
        go_ret2
        exact ⟨rfl, HQ.out.trans (Quiet.below B2.out), HH.out.right.below B2.out⟩
      · have HNO := Lib.hid hno
        clear hc hno hb
        go_wp2_with fail
        refine (atoi_bad _ _ HLA.out (by omega) HNO.out).mono ?_
        rintro e w1 ⟨n', ty, p, rfl, b1⟩
        have B1 := Lib.hid b1; clear b1
        go_wp2
        go_ret2
        exact ⟨rfl, HQ.out.trans (Quiet.below B1.out), HH.out.right.below B1.out⟩
theorem numbers_sl (v : Value) (l : List (List UInt8)) (r : List Int) (w : World) {w0 : World} {R : HP} (h : Holds w (lay w0 * R)) (hv : RowAt w v l.length (svls l)) (hn : l.length ≤ 100000) (hs : ∀ x ∈ l, x.length ≤ 100000) (hr : numsOf l = some r) :
    Calls Tryz.prog 25 #[v] w (PostX w (lay w0 * R) (fun v => .tuple #[v, .bool true]) fun v => inum v r) :=
  (numbers_ok v l r w (lay_laid h) hv hn hs hr).mono fun e w' ⟨x, he, hq, hh⟩ => ⟨x, he, hq, hh.frame h⟩
theorem numbers_no (v : Value) (l : List (List UInt8)) (w : World) {w0 : World} {R : HP} (h : Holds w (lay w0 * R)) (hv : RowAt w v l.length (svls l)) (hn : l.length ≤ 100000) (hs : ∀ x ∈ l, x.length ≤ 100000) (hr : numsOf l = none) :
    Calls Tryz.prog 25 #[v] w (PostN w (lay w0 * R) (.tuple #[.slice none 0 0, .bool false])) :=
  (numbers_bad v l w (lay_laid h) hv hn hs hr).mono fun e w' ⟨he, hq, hh⟩ => ⟨he, hq, hh.frame0 h⟩
end Go.Proofs.YtfihmpkkpgmdhaaGreatDoor

/-
  A region that draws its order, walked in the order of the text, where variables are made at any time in between: memory by assertions.
-/
namespace Go.Proofs.YtfihmpkkpgmdhaaGreatDoor
set_option linter.unusedVariables false
open Go
section
variable {P : Program} {ops : Array Oper} {S : World → Prop} {path : List Nat} {fz : Nat → Option (TypeId × List Value)} {Q : Exit → Act → World → Prop} {w0 : World}
/-- Somewhere memory is so. -/
def Live (S : World → Prop) (w0 : World) (A : HP) : Prop := ∃ w R, S w ∧ Quiet w0 w ∧ Holds w (A * R)
def LexH (P : Program) (ops : Array Oper) (S : World → Prop) (path : List Nat) (fz : Nat → Option (TypeId × List Value)) (Q : Exit → Act → World → Prop) (w0 : World) : List Nat → Act → HP → Prop
  | [], a, A => ∀ w, S w → Holds w A → Quiet w0 w → Q .normal a w
  | i :: rest, a, A => ∃ o, ops[i]? = some o ∧
      ((fz i = none ∧ ∃ v, Yl P ops S o a v ∧ LexH P ops S path fz Q w0 rest (a.put o.dst v) A) ∨
       (fz i = none ∧ Region.wanted o (yielded ops a.tmps) = true ∧ i ∈ path ∧ ∀ w R, S w → Quiet w0 w → Holds w (A * R) → Loud P o a w fun v w' => S w' ∧ Quiet w0 w' ∧ ∃ A', Holds w' (A' * R) ∧ LexH P ops S path fz Q w0 rest (a.put o.dst v) A') ∨
       (∃ ty cs, fz i = some (ty, cs) ∧ ∀ q : Nat, Live S w0 (bl q ty cs * A) → LexH P ops S path fz Q w0 rest (a.put o.dst (.pointer (some ⟨q, 0, none⟩))) (bl q ty cs * A)))
/-- What is asked of the variables that are made. -/
def FzOk (P : Program) (ops : Array Oper) (fz : Nat → Option (TypeId × List Value)) : Prop := ∀ i ty cs, fz i = some (ty, cs) → ∀ o, ops[i]? = some o → o.guard = none ∧ ∀ (a : Act) (w : World), (execOp a.eval o).run P w = .ok (.value (.pointer (some ⟨w.heap.size, 0, none⟩))) (w.alloc (.cells cs.toArray ty))

theorem LexH.pullF {i : Nat} {oi : Oper} {post : List Nat} {ty : TypeId} {cs : List Value} (hi : ops[i]? = some oi) (hf : fz i = some (ty, cs)) (hsel : ∀ (j : Nat) (o : Oper) cs b, ops[j]? = some o → o.op ≠ .select cs b) :
    ∀ (pre : List Nat) (a : Act) (A : HP), (∀ p ∈ pre, ∀ o, ops[p]? = some o → o.apart ops oi = true) → LexH P ops S path fz Q w0 (pre ++ i :: post) a A →
      ∀ q : Nat, Live S w0 (bl q ty cs * A) → LexH P ops S path fz Q w0 (pre ++ post) (a.put oi.dst (.pointer (some ⟨q, 0, none⟩))) (bl q ty cs * A)
  | [], a, A, _, h => by
    obtain ⟨o, ho, h⟩ := h
    rw [hi] at ho
    obtain rfl := Option.some.inj ho
    rcases h with ⟨e, _⟩ | ⟨e, _⟩ | ⟨ty', cs', e, h⟩
    · rw [hf] at e; cases e
    · rw [hf] at e; cases e
    · rw [hf] at e
      simp only [Option.some.injEq, Prod.mk.injEq] at e
      obtain ⟨rfl, rfl⟩ := e
      exact h
  | p :: pre, a, A, hap, h => by
    obtain ⟨op, hop, h⟩ := h
    obtain ⟨h1, h2, h3⟩ := Oper.apart_spec (hap p (by simp) op hop)
    intro q hq
    have hx := execOp_put (ops := ops) op (fun cs b => hsel p op cs b hop) a oi.dst (.pointer (some ⟨q, 0, none⟩)) h3
    have hwp := wanted_put (ops := ops) op a oi.dst (.pointer (some ⟨q, 0, none⟩)) h3
    rcases h with ⟨e, u, hu, h⟩ | ⟨e, hw, hp, h⟩ | ⟨ty', cs', e, h⟩
    · have ih := LexH.pullF hi hf hsel pre _ A (fun q hq' => hap q (by simp [hq'])) h q hq
      refine ⟨op, hop, .inl ⟨e, u, hu.same hx hwp, ?_⟩⟩
      rw [← Act.put_comm a u _ h2]
      exact ih
    · refine ⟨op, hop, .inr (.inl ⟨e, by rw [hwp]; exact hw, hp, fun w R hS hqu hA => ?_⟩)⟩
      have hl := h w (bl q ty cs * R) hS hqu (hA.eq (by ac_rfl))
      unfold Loud at hl ⊢
      rw [hx]
      refine Loud.mono (o := op) (a := a) (w := w) hl fun v w' ⟨hS', hq', A', hA', hl'⟩ => ⟨hS', hq', bl q ty cs * A', hA'.eq (by ac_rfl), ?_⟩
      rw [← Act.put_comm a v _ h2]
      exact LexH.pullF hi hf hsel pre _ A' (fun q hq' => hap q (by simp [hq'])) hl' q ⟨w', R, hS', hq', hA'.eq (by ac_rfl)⟩
    · refine ⟨op, hop, .inr (.inr ⟨ty', cs', e, fun q' hq' => ?_⟩)⟩
      have hl1 : Live S w0 (bl q' ty' cs' * A) := by obtain ⟨w, R, a1, a2, a3⟩ := hq'; exact ⟨w, bl q ty cs * R, a1, a2, a3.eq (by ac_rfl)⟩
      have hl2 : Live S w0 (bl q ty cs * (bl q' ty' cs' * A)) := by obtain ⟨w, R, a1, a2, a3⟩ := hq'; exact ⟨w, R, a1, a2, a3.eq (by ac_rfl)⟩
      have ih := LexH.pullF hi hf hsel pre _ _ (fun q hq' => hap q (by simp [hq'])) (h q' hl1) q hl2
      rw [← Act.put_comm a _ _ h2]
      rw [show bl q' ty' cs' * (bl q ty cs * A) = bl q ty cs * (bl q' ty' cs' * A) from by ac_rfl]
      exact ih

theorem LexH.pull (hSa : ∀ w o, S w → S (w.alloc o)) {i : Nat} {oi : Oper} {post : List Nat} (hi : ops[i]? = some oi) (hq : i ∉ path) (hf : fz i = none) (hsel : ∀ (j : Nat) (o : Oper) cs b, ops[j]? = some o → o.op ≠ .select cs b) :
    ∀ (pre : List Nat) (a : Act) (A : HP), Live S w0 A → (∀ p ∈ pre, ∀ o, ops[p]? = some o → o.apart ops oi = true) → LexH P ops S path fz Q w0 (pre ++ i :: post) a A →
      ∃ v, Yl P ops S oi a v ∧ LexH P ops S path fz Q w0 (pre ++ post) (a.put oi.dst v) A
  | [], a, A, _, _, h => by
    obtain ⟨o, ho, h⟩ := h
    rw [hi] at ho
    obtain rfl := Option.some.inj ho
    rcases h with ⟨_, h⟩ | ⟨_, _, hp, _⟩ | ⟨_, _, e, _⟩
    · exact h
    · exact absurd hp hq
    · rw [hf] at e; cases e
  | p :: pre, a, A, hlive, hap, h => by
    obtain ⟨op, hop, h⟩ := h
    obtain ⟨h1, h2, h3⟩ := Oper.apart_spec (hap p (by simp) op hop)
    have toA : ∀ u v, Yl P ops S oi (a.put op.dst u) v → Yl P ops S oi a v := fun u v hy =>
      hy.same (execOp_put (ops := ops) oi (fun cs b => hsel i oi cs b hi) a op.dst u h1).symm (wanted_put oi a op.dst u h1).symm
    rcases h with ⟨e, u, hu, h⟩ | ⟨e, hw, hp, h⟩ | ⟨ty', cs', e, h⟩
    · obtain ⟨v, hv, hl⟩ := LexH.pull hSa hi hq hf hsel pre _ A hlive (fun q hq' => hap q (by simp [hq'])) h
      refine ⟨v, toA u v hv, op, hop, .inl ⟨e, u, hu.same (execOp_put (ops := ops) op (fun cs b => hsel p op cs b hop) a oi.dst v h3) (wanted_put op a oi.dst v h3), ?_⟩⟩
      rw [← Act.put_comm a u v h2]
      exact hl
    · obtain ⟨w, R, b1, b2, b3⟩ := hlive
      obtain ⟨u, w1, hS1, hq1, A1, hA1, hl1⟩ := (h w R b1 b2 b3).some
      obtain ⟨v, hv, _⟩ := LexH.pull hSa hi hq hf hsel pre _ A1 ⟨w1, R, hS1, hq1, hA1⟩ (fun q hq' => hap q (by simp [hq'])) hl1
      refine ⟨v, toA u v hv, op, hop, .inr (.inl ⟨e, by rw [wanted_put op a oi.dst v h3]; exact hw, hp, fun w R hS hqu hA => ?_⟩)⟩
      have hl := h w R hS hqu hA
      unfold Loud at hl ⊢
      rw [execOp_put (ops := ops) op (fun cs b => hsel p op cs b hop) a oi.dst v h3]
      refine Loud.mono (o := op) (a := a) (w := w) hl fun u' w' ⟨hS', hq', A', hA', hl'⟩ => ⟨hS', hq', A', hA', ?_⟩
      obtain ⟨v', hv', hl''⟩ := LexH.pull hSa hi hq hf hsel pre _ A' ⟨w', R, hS', hq', hA'⟩ (fun q hq' => hap q (by simp [hq'])) hl'
      obtain rfl := Yl.unique hS' (toA u' v' hv') (toA u v hv)
      rw [← Act.put_comm a u' v' h2]
      exact hl''
    · obtain ⟨w, R, b1, b2, b3⟩ := hlive
      have hl0 : Live S w0 (bl w.heap.size ty' cs' * A) := ⟨w.alloc (.cells cs'.toArray ty'), R, hSa _ _ b1, b2.alloc _, (b3.allocB ty' cs').eq (by ac_rfl)⟩
      obtain ⟨v, hv, _⟩ := LexH.pull hSa hi hq hf hsel pre _ _ hl0 (fun q hq' => hap q (by simp [hq'])) (h _ hl0)
      refine ⟨v, toA _ v hv, op, hop, .inr (.inr ⟨ty', cs', e, fun q' hq' => ?_⟩)⟩
      obtain ⟨v', hv', hl''⟩ := LexH.pull hSa hi hq hf hsel pre _ _ hq' (fun q hq' => hap q (by simp [hq'])) (h q' hq')
      obtain rfl := Yl.unique b1 (toA _ v' hv') (toA _ v hv)
      rw [← Act.put_comm a _ v' h2]
      exact hl''

theorem LexH.pullL {i : Nat} {oi : Oper} {post : List Nat} (hi : ops[i]? = some oi) (hf : fz i = none) (hsel : ∀ (j : Nat) (o : Oper) cs b, ops[j]? = some o → o.op ≠ .select cs b) :
    ∀ (pre : List Nat) (a : Act) (A : HP), (∀ p ∈ pre, ∀ o, ops[p]? = some o → o.apart ops oi = true) → (∀ p ∈ pre, p ∉ path ∧ fz p = none) → LexH P ops S path fz Q w0 (pre ++ i :: post) a A →
      (∃ v, Yl P ops S oi a v ∧ LexH P ops S path fz Q w0 (pre ++ post) (a.put oi.dst v) A) ∨
      (Region.wanted oi (yielded ops a.tmps) = true ∧ ∀ w R, S w → Quiet w0 w → Holds w (A * R) → Loud P oi a w fun v w' => S w' ∧ Quiet w0 w' ∧ ∃ A', Holds w' (A' * R) ∧ LexH P ops S path fz Q w0 (pre ++ post) (a.put oi.dst v) A')
  | [], a, A, _, _, h => by
    obtain ⟨o, ho, h⟩ := h
    rw [hi] at ho
    obtain rfl := Option.some.inj ho
    rcases h with ⟨_, h⟩ | ⟨_, hw, _, h⟩ | ⟨_, _, e, _⟩
    · exact .inl h
    · exact .inr ⟨hw, h⟩
    · rw [hf] at e; cases e
  | p :: pre, a, A, hap, hno, h => by
    obtain ⟨op, hop, h⟩ := h
    obtain ⟨h1, h2, h3⟩ := Oper.apart_spec (hap p (by simp) op hop)
    rcases h with ⟨e, u, hu, h⟩ | ⟨_, _, hp, _⟩ | ⟨_, _, e, _⟩
    case inr.inl => exact absurd hp (hno p (by simp)).1
    case inr.inr => rw [(hno p (by simp)).2] at e; cases e
    have he := execOp_put (ops := ops) oi (fun cs b => hsel i oi cs b hi) a op.dst u h1
    have hwp := wanted_put (ops := ops) oi a op.dst u h1
    have hu' : ∀ v, Yl P ops S op (a.put oi.dst v) u := fun v => hu.same (execOp_put (ops := ops) op (fun cs b => hsel p op cs b hop) a oi.dst v h3) (wanted_put op a oi.dst v h3)
    rcases LexH.pullL hi hf hsel pre _ A (fun q hq' => hap q (by simp [hq'])) (fun q hq' => hno q (by simp [hq'])) h with ⟨v, hv, hl⟩ | ⟨hw, hl⟩
    · refine .inl ⟨v, hv.same he.symm hwp.symm, op, hop, .inl ⟨e, u, hu' v, ?_⟩⟩
      rw [← Act.put_comm a u v h2]
      exact hl
    · refine .inr ⟨by rw [← hwp]; exact hw, fun w R hS hq hA => ?_⟩
      have hl := hl w R hS hq hA
      unfold Loud at hl ⊢
      rw [he] at hl
      refine Loud.mono (o := oi) (a := a) (w := w) hl fun v w' ⟨hS', hq', A', hA', hl'⟩ => ⟨hS', hq', A', hA', op, hop, .inl ⟨e, u, hu' v, ?_⟩⟩
      rw [← Act.put_comm a u v h2]
      exact hl'

def floatsOk (ops : Array Oper) (path fl : List Nat) : Bool := path.all (fun x => !fl.contains x && fl.all fun p => !decide (p < x) || hasEdge ops x p)

theorem wpAny_of_lexH (hSa : ∀ w o, S w → S (w.alloc o)) (hok : lexOk ops path = true) {fl : List Nat} (hfl : ∀ i, fz i ≠ none → i ∈ fl) (hfok : floatsOk ops path fl = true) (hno : ∀ i ∈ fl, fz i ≠ none) (hz : FzOk P ops fz) (R : HP) : ∀ (n : Nat) (rem : List Nat) (listed : Array Bool) (a : Act) (w : World) (A : HP), rem.length = n → rem.Pairwise (· < ·) → listed.size = ops.size →
    (∀ k, k ∈ rem ↔ k < ops.size ∧ listed.getD k true = false) → Closed ops listed → S w → Quiet w0 w → Holds w (A * R) → LexH P ops S path fz Q w0 rem a A → wpAny P .any ops Q n listed a w := by
  have hok' := hok
  simp only [lexOk, Bool.and_eq_true] at hok'
  obtain ⟨⟨hns, hall⟩, hpath⟩ := hok'
  have hsel := fun (j : Nat) (o : Oper) cs b => Region.noSelect_spec hns j o cs b
  have hfp : ∀ x ∈ path, x ∉ fl ∧ ∀ p ∈ fl, p < x → hasEdge ops x p = true := fun x hx => by
    have := List.all_eq_true.1 hfok x hx
    simp only [Bool.and_eq_true, Bool.not_eq_true', List.all_eq_true, Bool.or_eq_true, decide_eq_false_iff_not] at this
    refine ⟨(fun h => by rw [List.contains_iff_mem.2 h] at this; cases this.1), fun p hp hlt => ?_⟩
    rcases this.2 p hp with h | h
    · exact absurd hlt h
    · exact h
  intro n
  induction n with
  | zero =>
    intro rem listed a w A hn _ _ hrem _ hS hq hA h
    obtain rfl := List.eq_nil_of_length_eq_zero hn
    refine ⟨?_, h w hS hA.left hq⟩
    refine List.eq_nil_iff_forall_not_mem.2 fun i hi => ?_
    obtain ⟨h0, o, ho, _⟩ := mem_ready.1 hi
    have := (hrem i).2 ⟨(Array.getElem?_eq_some_iff.1 ho).1, h0⟩
    cases this
  | succ n ih =>
    intro rem listed a w A hn hpw hsz hrem hcl hS hqu hA h
    have hedge : ∀ j oj, ops[j]? = some oj → (∀ e ∈ oj.after, Region.binds .any e = true → e.on < j) ∧ ∀ i, i < j → hasEdge ops j i = true ∨ ∀ oi, ops[i]? = some oi → oi.apart ops oj = true := by
      intro j oj hj
      have h1 := List.all_eq_true.1 hall j (List.mem_range.2 (Array.getElem?_eq_some_iff.1 hj).1)
      simp only [hj, Bool.and_eq_true] at h1
      refine ⟨fun e he hb => ?_, fun i hij => ?_⟩
      · have := Array.all_eq_true_iff_forall_mem.1 h1.1 e he
        simpa [hb] using this
      · have := List.all_eq_true.1 h1.2 i (List.mem_range.2 hij)
        simp only [Bool.or_eq_true] at this
        refine this.imp id fun h2 oi hoi => ?_
        simpa [hoi] using h2
    refine ⟨fun hr0 => ?_, fun i hi => ?_⟩
    · exfalso
      match rem, hn, hpw, hrem with
      | m :: rest, _, hpw, hrem =>
        have hm := (hrem m).1 (by simp)
        obtain ⟨om, hom⟩ : ∃ o, ops[m]? = some o := ⟨_, Array.getElem?_eq_getElem hm.1⟩
        have : m ∈ Region.ready .any ops listed := mem_ready.2 ⟨hm.2, om, hom, fun e he hb => by
          have hlt := (hedge m om hom).1 e he hb
          have hno : e.on ∉ m :: rest := by
            intro hmem
            rcases List.mem_cons.1 hmem with h1 | h1
            · omega
            · have := (List.pairwise_cons.1 hpw).1 _ h1; omega
          have hlt2 : e.on < listed.size := by omega
          have hg : ¬ listed.getD e.on true = false := fun hf => hno ((hrem e.on).2 ⟨by omega, hf⟩)
          simp [hlt2] at hg ⊢
          exact hg⟩
        rw [hr0] at this
        cases this
    · obtain ⟨h0, oi, hoi, hall'⟩ := mem_ready.1 hi
      have hilt := (Array.getElem?_eq_some_iff.1 hoi).1
      have him := (hrem i).2 ⟨hilt, h0⟩
      obtain ⟨pre, post, rfl⟩ := List.append_of_mem him
      have hpre : ∀ p ∈ pre, p < i := fun p hp => (List.pairwise_append.1 hpw).2.2 p hp i (by simp)
      have hun : ∀ p ∈ pre, listed.getD p false = false := fun p hp => by
        have := (hrem p).1 (by simp [hp])
        have hlt2 : p < listed.size := by omega
        simpa [hlt2] using this.2
      have hnoedge : ∀ p ∈ pre, hasEdge ops i p = true → False := fun p hp h1 => by
        obtain ⟨o', ho', e, he, hb, heq⟩ := hasEdge_iff.1 h1
        rw [hoi] at ho'
        obtain rfl := Option.some.inj ho'
        have := hall' e he hb
        rw [heq, hun p hp] at this
        cases this
      have hap : ∀ p ∈ pre, ∀ o, ops[p]? = some o → o.apart ops oi = true := fun p hp o ho => by
        rcases (hedge i oi hoi).2 p (hpre p hp) with h1 | h1
        · exact (hnoedge p hp h1).elim
        · exact h1 o ho
      have hne : ∀ k, k ∈ pre ++ post → k ≠ i := fun k hk hki => by
        subst hki
        rcases List.mem_append.1 hk with h1 | h1
        · exact Nat.lt_irrefl _ (hpre _ h1)
        · have := (List.pairwise_cons.1 (List.pairwise_append.1 hpw).2.1).1 _ h1; omega
      have next : ∀ a' w' A', S w' → Quiet w0 w' → Holds w' (A' * R) → LexH P ops S path fz Q w0 (pre ++ post) a' A' → wpAny P .any ops Q n (listed.setIfInBounds i true) a' w' := fun a' w' A' hS' hq' hA' hl => by
        refine ih (pre ++ post) _ a' w' A' (by simp at hn ⊢; omega) ?_ (by simpa using hsz) (fun k => ?_) ?_ hS' hq' hA' hl
        · refine List.Pairwise.sublist ?_ hpw
          exact List.Sublist.append (List.Sublist.refl _) (List.sublist_cons_self _ _)
        · by_cases hk : k = i
          · subst hk
            constructor
            · intro hm; exact absurd rfl (hne _ hm)
            · intro hm
              have hlt2 : k < listed.size := by omega
              simp [hlt2] at hm
          · rw [getD_set_ne true (Ne.symm hk), ← hrem k]
            simp [hk]
        · intro j o ho hj e he hb
          refine getD_set_true ?_
          by_cases hji : i = j
          · subst hji
            rw [hoi] at ho
            obtain rfl := Option.some.inj ho
            exact hall' e he hb
          · rw [getD_set_ne false hji] at hj
            exact hcl j o ho hj e he hb
      have fin : ∀ v, Yl P ops S oi a v → LexH P ops S path fz Q w0 (pre ++ post) (a.put oi.dst v) A → wpOp P ops Q i (wpAny P .any ops Q n (listed.setIfInBounds i true)) a w := fun v hv hl => by
        unfold wpOp
        simp only [hoi]
        rcases hv with ⟨hw, rfl⟩ | ⟨hw, hv⟩
        · simp only [hw, Bool.false_eq_true, if_false]
          exact next _ _ A hS hqu hA hl
        · simp only [hw, if_true]
          refine .inl ?_
          unfold Oper.wp
          rw [hv w hS]
          exact next _ _ A hS hqu hA hl
      by_cases hip : i ∈ path
      · have hif : fz i = none := by
          refine Classical.byContradiction fun hf => (hfp i hip).1 (hfl i hf)
        have hnp : ∀ p ∈ pre, p ∉ path ∧ fz p = none := fun p hp => by
          refine ⟨fun hpp => ?_, ?_⟩
          · have := path_listed hpath hcl i hip (fun o ho => by
              rw [hoi] at ho
              obtain rfl := Option.some.inj ho
              exact hall') p hpp (hpre p hp)
            rw [hun p hp] at this
            cases this
          · exact Classical.byContradiction fun hf => hnoedge p hp ((hfp i hip).2 p (hfl p hf) (hpre p hp))
        rcases LexH.pullL hoi hif hsel pre a A hap hnp h with ⟨v, hv, hl⟩ | ⟨hw, hl⟩
        · exact fin v hv hl
        · unfold wpOp
          simp only [hoi, hw, if_true]
          exact .inl ((hl w R hS hqu hA).wp fun v w' ⟨hS', hq', A', hA', hl'⟩ => next _ _ A' hS' hq' hA' hl')
      · cases hf : fz i with
        | none =>
          obtain ⟨v, hv, hl⟩ := LexH.pull hSa hoi hip hf hsel pre a A ⟨w, R, hS, hqu, hA⟩ hap h
          exact fin v hv hl
        | some x =>
          obtain ⟨ty, cs⟩ := x
          obtain ⟨hg, hx⟩ := hz i ty cs hf oi hoi
          have hA' : Holds (w.alloc (.cells cs.toArray ty)) (bl w.heap.size ty cs * A * R) := (hA.allocB ty cs).eq (by ac_rfl)
          have hl := LexH.pullF hoi hf hsel pre a A hap h w.heap.size ⟨_, R, hSa _ _ hS, hqu.alloc _, hA'⟩
          unfold wpOp
          have hw : Region.wanted oi (yielded ops a.tmps) = true := by unfold Region.wanted; rw [hg]
          simp only [hoi, hw, if_true]
          refine .inl ?_
          unfold Oper.wp
          rw [hx a w]
          exact next _ _ _ (hSa _ _ hS) (hqu.alloc _) hA' hl

def LexHL (P : Program) (ops : Array Oper) (S : World → Prop) (path : List Nat) (fz : Nat → Option (TypeId × List Value)) (Q : Exit → Act → World → Prop) (w0 : World) : Nat → List Oper → Act → HP → Prop
  | _, [], a, A => ∀ w, S w → Holds w A → Quiet w0 w → Q .normal a w
  | i, o :: rest, a, A =>
      ((fz i = none ∧ ∃ v, Yl P ops S o a v ∧ LexHL P ops S path fz Q w0 (i + 1) rest (a.put o.dst v) A) ∨
       (fz i = none ∧ Region.wanted o (yielded ops a.tmps) = true ∧ i ∈ path ∧ ∀ w R, S w → Quiet w0 w → Holds w (A * R) → Loud P o a w fun v w' => S w' ∧ Quiet w0 w' ∧ ∃ A', Holds w' (A' * R) ∧ LexHL P ops S path fz Q w0 (i + 1) rest (a.put o.dst v) A') ∨
       (∃ ty cs, fz i = some (ty, cs) ∧ ∀ q : Nat, Live S w0 (bl q ty cs * A) → LexHL P ops S path fz Q w0 (i + 1) rest (a.put o.dst (.pointer (some ⟨q, 0, none⟩))) (bl q ty cs * A)))
theorem LexH.of_list : ∀ (l : List Oper) (i : Nat) (a : Act) (A : HP), (∀ k o, l[k]? = some o → ops[i + k]? = some o) → LexHL P ops S path fz Q w0 i l a A → LexH P ops S path fz Q w0 (List.range' i l.length) a A
  | [], _, _, _, _, h => h
  | o :: l, i, a, A, hl, h => by
    have hl' : ∀ k o, l[k]? = some o → ops[i + 1 + k]? = some o := fun k o hk => by
      have := hl (k + 1) o hk
      rwa [show i + (k + 1) = i + 1 + k by omega] at this
    refine ⟨o, hl 0 o rfl, ?_⟩
    rcases h with ⟨e, v, hv, h⟩ | ⟨e, hw, hp, h⟩ | ⟨ty, cs, e, h⟩
    · exact .inl ⟨e, v, hv, LexH.of_list l (i + 1) _ _ hl' h⟩
    · exact .inr (.inl ⟨e, hw, hp, fun w R h1 h2 h3 => (h w R h1 h2 h3).mono fun v w' ⟨h4, h5, A', h6, h7⟩ => ⟨h4, h5, A', h6, LexH.of_list l (i + 1) _ _ hl' h7⟩⟩)
    · exact .inr (.inr ⟨ty, cs, e, fun q hq => LexH.of_list l (i + 1) _ _ hl' (h q hq)⟩)
theorem wp_region_textH {id : Nat} {a : Act} {w : World} (S : World → Prop) (path fl : List Nat) (fz : Nat → Option (TypeId × List Value)) (A : HP) (rem : List Nat) (hm : P.follows .mixedOrders = true) (hok : lexOk ops path = true)
    (hfok : floatsOk ops path fl = true) (hfl : ∀ i, fz i ≠ none → i ∈ fl) (hno : ∀ i ∈ fl, fz i ≠ none) (hz : FzOk P ops fz) (hSa : ∀ w o, S w → S (w.alloc o)) (hr : List.range ops.size = rem) (hS : S w.drew) (hA : Holds w.drew A)
    (h : LexH P ops S path fz Q w.drew rem a A) : (Code.region id ops true).wp P Q a w := by
  refine wp_region_any hm ?_
  subst hr
  have hemp : Holds w.drew (A * HP.emp) := by
    obtain ⟨F, hF⟩ := hA
    exact ⟨F, F, fun _ => False, fun _ _ h => h, fun k => by simp, hF, fun k h => h⟩
  refine wpAny_of_lexH (S := S) hSa hok hfl hfok hno hz HP.emp ops.size (List.range ops.size) _ a _ A (by simp) List.pairwise_lt_range (by simp) (fun k => ?_) ?_ hS (Quiet.refl _) hemp h
  · by_cases hk : k < ops.size <;> simp [hk]
  · intro j o _ hj
    by_cases hlt : j < ops.size <;> simp [hlt] at hj
theorem wp_region_lexH {l : List Oper} {id : Nat} {a : Act} {w : World} (S : World → Prop) (path fl : List Nat) (fz : Nat → Option (TypeId × List Value)) (A : HP) (hm : P.follows .mixedOrders = true) (hok : lexOk l.toArray path = true)
    (hfok : floatsOk l.toArray path fl = true) (hfl : ∀ i, fz i ≠ none → i ∈ fl) (hno : ∀ i ∈ fl, fz i ≠ none) (hz : FzOk P l.toArray fz) (hSa : ∀ w o, S w → S (w.alloc o)) (hS : S w.drew) (hA : Holds w.drew A)
    (h : LexHL P l.toArray S path fz Q w.drew 0 l a A) : (Code.region id l.toArray true).wp P Q a w := by
  have h1 := LexH.of_list (ops := l.toArray) l 0 a A (fun k o hk => by simpa using hk) h
  refine wp_region_textH S path fl fz A _ hm hok hfok hfl hno hz hSa rfl hS hA ?_
  simpa [List.range_eq_range'] using h1

variable {o : Oper} {i : Nat} {rest : List Oper} {a : Act} {A : HP}
theorem LexHL.still {v : Value} (hf : fz i = none) (hw : Region.wanted o (yielded ops a.tmps) = true) (hv : ∀ w, S w → (execOp a.eval o).run P w = .ok (.value v) w)
    (h : LexHL P ops S path fz Q w0 (i + 1) rest (a.put o.dst v) A) : LexHL P ops S path fz Q w0 i (o :: rest) a A := .inl ⟨hf, v, .inr ⟨hw, hv⟩, h⟩
theorem LexHL.call {f : FuncId} {args : Array Value} (hf : fz i = none) (hw : Region.wanted o (yielded ops a.tmps) = true) (hi : i ∈ path) (he : ∀ w, S w → (execOp a.eval o).run P w = .ok (.enter f args) w)
    (h : ∀ w R, S w → Quiet w0 w → Holds w (A * R) → Calls P f args w fun e w' => ∃ v, e = .returned v ∧ S w' ∧ Quiet w0 w' ∧ ∃ A', Holds w' (A' * R) ∧ LexHL P ops S path fz Q w0 (i + 1) rest (a.put o.dst v) A') : LexHL P ops S path fz Q w0 i (o :: rest) a A :=
  .inr (.inl ⟨hf, hw, hi, fun w R h1 h2 h3 => by unfold Loud; rw [he w h1]; exact h w R h1 h2 h3⟩)
theorem LexHL.store {w1 : World → World} {A' : HP} (hf : fz i = none) (hw : Region.wanted o (yielded ops a.tmps) = true) (hi : i ∈ path)
    (he : ∀ w R, S w → Quiet w0 w → Holds w (A * R) → ∃ w', (execOp a.eval o).run P w = .ok .skip w' ∧ S w' ∧ Quiet w0 w' ∧ Holds w' (A' * R)) (h : LexHL P ops S path fz Q w0 (i + 1) rest (a.put o.dst undef) A') : LexHL P ops S path fz Q w0 i (o :: rest) a A :=
  .inr (.inl ⟨hf, hw, hi, fun w R h1 h2 h3 => by obtain ⟨w', e, h4, h5, h6⟩ := he w R h1 h2 h3; unfold Loud; rw [e]; exact ⟨h4, h5, A', h6, h⟩⟩)
theorem LexHL.made {ty : TypeId} {cs : List Value} (hf : fz i = some (ty, cs)) (h : ∀ q : Nat, Live S w0 (bl q ty cs * A) → LexHL P ops S path fz Q w0 (i + 1) rest (a.put o.dst (.pointer (some ⟨q, 0, none⟩))) (bl q ty cs * A)) : LexHL P ops S path fz Q w0 i (o :: rest) a A := .inr (.inr ⟨ty, cs, hf, h⟩)
theorem LexHL.done (h : ∀ w, S w → Holds w A → Quiet w0 w → Q .normal a w) : LexHL P ops S path fz Q w0 i [] a A := h
end
end Go.Proofs.YtfihmpkkpgmdhaaGreatDoor
