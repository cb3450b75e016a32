/-
  Plain definitions and laws: a guild: a disk, three nodes, a clock.
-/
import Derived.Test.YtfihmpkkpgmdhabPlain8
namespace Go.Proofs.Ytfihmpkkpgmdhab
set_option linter.unusedVariables false

structure Stp where
  (kind n keep : Int)
  o : Ord
structure Gld where
  d : Dsk
  f : Nat → Option Nod
  now : Int
def Gld.zero : Gld := ⟨Dsk.zero, fun _ => none, 0⟩
def Ord.at (o : Ord) (now : Int) : Ord := ⟨o.kind, now, o.job, o.tr, o.wk, o.tm⟩
def Gld.nod (g : Gld) (n : Int) : Option Nod := if n < 0 ∨ 3 ≤ n then none else g.f n.toNat
/-- A step: the guild behind it, and what is answered. -/
def Gld.step (g : Gld) (x : Stp) : Gld × Ans :=
  if x.kind = 1 then
    if x.n < 0 ∨ 3 ≤ x.n then (g, ⟨3, 0, 0⟩)
    else if 100 ≤ g.d.ep then (g, ⟨8, 0, 0⟩)
    else (⟨(opened g.d).1, putN g.f x.n.toNat ⟨behind (found g.d), g.d.ep + 1, false⟩, g.now⟩, ⟨0, 0, 0⟩)
  else if x.kind = 5 then
    if x.n < 0 ∨ 60000 - g.now < x.n then (g, ⟨3, 0, 0⟩) else (⟨g.d, g.f, g.now + x.n⟩, ⟨0, 0, 0⟩)
  else if x.kind = 2 ∨ x.kind = 3 ∨ x.kind = 4 then
    match g.nod x.n with
    | none => (g, ⟨5, 0, 0⟩)
    | some n =>
      if x.kind = 2 then
        let y := n.order g.d (x.o.at g.now) 9
        (⟨y.1, putN g.f x.n.toNat y.2.1, g.now⟩, y.2.2)
      else if x.kind = 3 then
        let y := n.tear g.d (x.o.at g.now) (keepN x.keep)
        (⟨y.1, putN g.f x.n.toNat y.2.1, g.now⟩, ⟨y.2.2, 0, 0⟩)
      else (⟨g.d, putN g.f x.n.toNat ⟨n.t, n.ep, true⟩, g.now⟩, ⟨0, 0, 0⟩)
  else (g, ⟨1, 0, 0⟩)
/-- What holds of a guild, with these records on its disk: each was done when it came. -/
inductive Done : Tbl → List Rec → Prop
  | nil (t : Tbl) : Done t []
  | cons (t : Tbl) (r : Rec) (l : List Rec) : (t.did r.o).2.code = 0 → Done (t.did r.o).1 l → Done t (r :: l)
theorem Done.snoc {t : Tbl} {l : List Rec} {r : Rec} (h : Done t l) (hr : ((runL t l).did r.o).2.code = 0) : Done t (l ++ [r]) := by
  induction h with
  | nil t => exact .cons _ _ _ hr (.nil _)
  | cons t q l h1 _ ih => exact .cons _ _ _ h1 (ih hr)
structure Gld.Ok (g : Gld) (l : List Rec) : Prop where
  fam : Fam g.d g.f l
  wh : Whole g.d l
  now : 0 ≤ g.now ∧ g.now ≤ 60000
  out : ∀ i, 3 ≤ i → g.f i = none
  done : Done Tbl.zero l
theorem Gld.zero_ok : Gld.zero.Ok [] :=
  ⟨Fam.empty Dsk.zero_ok [], ⟨trivial, by simp, [], rfl, by simp⟩, by simp [Gld.zero], fun _ _ => rfl, .nil _⟩
theorem keepN_le (k : Int) : keepN k ≤ 9 := by unfold keepN; omega
theorem putN_out {f : Nat → Option Nod} {i : Nat} {n : Nod} (h : ∀ k, 3 ≤ k → f k = none) (hi : i < 3) : ∀ k, 3 ≤ k → putN f i n k = none := fun k hk => by
  unfold putN
  rw [if_neg (by omega)]
  exact h k hk
theorem nod_some {g : Gld} {x : Int} {n : Nod} (h : g.nod x = some n) : x.toNat < 3 ∧ g.f x.toNat = some n ∧ 0 ≤ x ∧ x < 3 := by
  unfold Gld.nod at h
  split at h
  · cases h
  · exact ⟨by omega, h, by omega, by omega⟩
/-- The records behind a step. -/
inductive Grew (g : Gld) (x : Stp) (l : List Rec) : List Rec → Prop
  | same : Grew g x l l
  | one (n : Nod) : (x.kind = 2 ∨ x.kind = 3) → g.nod x.n = some n → n.ep = g.d.ep → ((behind l).did (x.o.at g.now)).2.code = 0 → chkR ⟨n.ep, x.o.at g.now⟩ = 0 → Grew g x l (l ++ [⟨n.ep, x.o.at g.now⟩])
/-- All that a step does. -/
structure Stepped (g : Gld) (x : Stp) (l : List Rec) (g' : Gld) (a : Ans) (l' : List Rec) : Prop where
  ok : g'.Ok l'
  ep : g.d.ep ≤ g'.d.ep
  grew : l' = l ∨ ∃ n : Nod, (x.kind = 2 ∨ x.kind = 3) ∧ g.nod x.n = some n ∧ n.ep = g.d.ep ∧ ((behind l).did (x.o.at g.now)).2.code = 0 ∧ chkR ⟨n.ep, x.o.at g.now⟩ = 0 ∧ a.code = 0 ∧ l' = l ++ [⟨n.ep, x.o.at g.now⟩]
  order : x.kind = 2 → a.code = 0 → (∃ n : Nod, g.nod x.n = some n ∧ n.ep = g.d.ep ∧ l' = l ++ [⟨n.ep, x.o.at g.now⟩]) ∧ a = ((behind l).did (x.o.at g.now)).2
  code : x.kind = 2 → a.code ≠ 0 → l' = l ∧ a.job = 0 ∧ a.tr = 0
  now : x.kind ≠ 5 → g'.now = g.now
  refused : x.kind = 2 → a.code ≠ 0 → a.code ≠ 8 → ∀ n', g'.nod x.n = some n' → n'.down = false → a = ((behind l).did (x.o.at g.now)).2
theorem nod_put {g : Gld} {d : Dsk} {f : Nat → Option Nod} {x now : Int} {n : Nod} (h0 : 0 ≤ x) (h1 : x < 3) : (⟨d, putN f x.toNat n, now⟩ : Gld).nod x = some n := by
  unfold Gld.nod
  rw [if_neg (by omega)]
  simp [putN]
theorem step_ok {g : Gld} {l : List Rec} (h : g.Ok l) (x : Stp) : ∃ l', Stepped g x l (g.step x).1 (g.step x).2 l' := by
  have hsame : ∀ (a : Ans), (x.kind = 2 → a.code ≠ 0) → a.job = 0 → a.tr = 0 → (x.kind = 2 → g.nod x.n = none) → Stepped g x l g a l := fun a ha hj ht hn =>
    ⟨h, Int.le_refl _, .inl rfl, fun h2 h0 => absurd h0 (ha h2), fun _ _ => ⟨rfl, hj, ht⟩, fun _ => rfl, fun h2 _ _ n' hn' => by rw [hn h2] at hn'; cases hn'⟩
  unfold Gld.step
  by_cases h1 : x.kind = 1
  · rw [if_pos h1]
    split
    · exact ⟨l, hsame _ (by omega) rfl rfl (by omega)⟩
    · rename_i hn
      split
      · exact ⟨l, hsame _ (by omega) rfl rfl (by omega)⟩
      · rename_i hc
        have hf : found g.d = l := h.wh.found
        have ho := h.fam.open hc x.n.toNat
        have hw := whole_opened hc
        rw [hf] at *
        refine ⟨l, ⟨ho, hw, h.now, putN_out h.out (by omega), h.done⟩, ?_, .inl rfl, by omega, by omega, fun _ => rfl, by omega⟩
        rw [opened_yes hc]; dsimp only; omega
  · rw [if_neg h1]
    by_cases h5 : x.kind = 5
    · rw [if_pos h5]
      split
      · exact ⟨l, hsame _ (by omega) rfl rfl (by omega)⟩
      · have := h.now
        exact ⟨l, ⟨h.fam, h.wh, by dsimp only; omega, h.out, h.done⟩, Int.le_refl _, .inl rfl, by omega, by omega, fun e => absurd h5 e, by omega⟩
    · rw [if_neg h5]
      by_cases h234 : x.kind = 2 ∨ x.kind = 3 ∨ x.kind = 4
      · rw [if_pos h234]
        cases hn : g.nod x.n with
        | none => exact ⟨l, hsame _ (by intro _; simp) rfl rfl (fun _ => hn)⟩
        | some n =>
          obtain ⟨hi, hfi, hx0, hx3⟩ := nod_some hn
          dsimp only
          by_cases h2 : x.kind = 2
          · rw [if_pos h2]
            obtain ⟨e1, e2, hcase⟩ := h.fam.order hfi (x.o.at g.now)
            generalize n.order g.d (x.o.at g.now) 9 = y at *
            obtain ⟨d', n', a⟩ := y
            dsimp only at *
            rcases hcase with ⟨c0, rfl, cj, ct, cf, cr⟩ | ⟨c0, ca, cd, ce, cc, cf⟩
            · exact ⟨l, ⟨cf, h.wh, h.now, putN_out h.out hi, h.done⟩, Int.le_refl _, .inl rfl, fun _ e => absurd e c0, fun _ _ => ⟨rfl, cj, ct⟩, fun _ => rfl, fun _ _ h8 n'' hn'' hd => by
                rw [nod_put (g := g) hx0 hx3] at hn''
                obtain rfl := Option.some.inj hn''
                exact cr hd h8⟩
            · exact ⟨l ++ [⟨n.ep, x.o.at g.now⟩], ⟨cf, cf.wh ⟨x.n.toNat, n', by simp [putN]⟩, h.now, putN_out h.out hi, h.done.snoc (r := ⟨n.ep, x.o.at g.now⟩) (by rw [ca] at c0; exact c0)⟩, by dsimp only; omega, .inr ⟨n, .inl h2, hn, ce, by rw [← ca]; exact c0, cc, c0, rfl⟩, fun _ _ => ⟨⟨n, hn, ce, rfl⟩, ca⟩, fun _ e => absurd c0 e, fun _ => rfl, fun _ e => absurd c0 e⟩
          · rw [if_neg h2]
            by_cases h3 : x.kind = 3
            · rw [if_pos h3]
              obtain ⟨e1, e2, hcase⟩ := h.fam.tear hfi (x.o.at g.now) (keepN_le x.keep)
              generalize n.tear g.d (x.o.at g.now) (keepN x.keep) = y at *
              obtain ⟨d', n', c⟩ := y
              dsimp only at *
              rcases hcase with ⟨c0, rfl, cf, _⟩ | ⟨c0, cd, ce, cdn, ca, cc, cf⟩
              · exact ⟨l, ⟨cf, h.wh, h.now, putN_out h.out hi, h.done⟩, Int.le_refl _, .inl rfl, by omega, by omega, fun _ => rfl, by omega⟩
              · rcases cf with ⟨_, cf⟩ | ⟨_, cf⟩
                · exact ⟨l, ⟨cf, cf.wh ⟨x.n.toNat, n', by simp [putN]⟩, h.now, putN_out h.out hi, h.done⟩, by dsimp only; omega, .inl rfl, by omega, by omega, fun _ => rfl, by omega⟩
                · exact ⟨l ++ [⟨n.ep, x.o.at g.now⟩], ⟨cf, cf.wh ⟨x.n.toNat, n', by simp [putN]⟩, h.now, putN_out h.out hi, h.done.snoc (r := ⟨n.ep, x.o.at g.now⟩) ca⟩, by dsimp only; omega, .inr ⟨n, .inr h3, hn, ce, ca, cc, c0, rfl⟩, by omega, by omega, fun _ => rfl, by omega⟩
            · rw [if_neg h3]
              exact ⟨l, ⟨h.fam.stop hfi, h.wh, h.now, putN_out h.out hi, h.done⟩, Int.le_refl _, .inl rfl, by omega, by omega, fun _ => rfl, by omega⟩
      · rw [if_neg h234]
        exact ⟨l, hsame _ (by omega) rfl rfl (by omega)⟩
end Go.Proofs.Ytfihmpkkpgmdhab
