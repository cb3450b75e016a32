/-
  Plain laws: nodes that serve from one disk, one behind the other.
-/
import Derived.Test.YtfihmpkkpgmdhabPlain7
namespace Go.Proofs.Ytfihmpkkpgmdhab
set_option linter.unusedVariables false

def putN (f : Nat → Option Nod) (i : Nat) (n : Nod) : Nat → Option Nod := fun k => if k = i then some n else f k
/-- Nodes of a disk, each with an epoch of its own. -/
structure Fam (d : Dsk) (f : Nat → Option Nod) (l : List Rec) : Prop where
  ok : d.Ok
  sv : ∀ i n, f i = some n → Serves d n l
  one : ∀ i j a b, f i = some a → f j = some b → a.ep = b.ep → i = j
  wh : (∃ i n, f i = some n) → Whole d l

theorem Fam.same {d : Dsk} {f : Nat → Option Nod} {l : List Rec} (h : Fam d f l) {i : Nat} {n n' : Nod} (hi : f i = some n) (he : n'.ep = n.ep) (hs : Serves d n' l) : Fam d (putN f i n') l := by
  refine ⟨h.ok, fun j m hj => ?_, fun j k a b hj hk hab => ?_, fun _ => h.wh ⟨i, n, hi⟩⟩
  · unfold putN at hj
    split at hj
    · obtain rfl := Option.some.inj hj; exact hs
    · exact h.sv j m hj
  · have hx : ∀ j a, putN f i n' j = some a → ∃ a', f j = some a' ∧ a'.ep = a.ep := fun j a hj => by
      unfold putN at hj
      split at hj
      · rename_i e; obtain rfl := Option.some.inj hj; exact ⟨n, e ▸ hi, he.symm⟩
      · exact ⟨a, hj, rfl⟩
    obtain ⟨a', ha, ea⟩ := hx j a hj
    obtain ⟨b', hb, eb⟩ := hx k b hk
    exact h.one j k a' b' ha hb (by omega)
/-- The one that serves wrote. -/
theorem Fam.wrote {d d' : Dsk} {f : Nat → Option Nod} {l l' : List Rec} (h : Fam d f l) {i : Nat} {n n' : Nod} (hi : f i = some n) (he : n'.ep = n.ep) (hn : n.ep = d.ep) (hd : d'.ep = d.ep) (hok : d'.Ok) (hs : Serves d' n' l') (hw : Whole d' l') : Fam d' (putN f i n') l' := by
  refine ⟨hok, fun j m hj => ?_, fun j k a b hj hk hab => ?_, fun _ => hw⟩
  · unfold putN at hj
    split at hj
    · obtain rfl := Option.some.inj hj; exact hs
    · rename_i hji
      have hm := h.sv j m hj
      refine ⟨by rw [hd]; exact hm.1, hm.2.1, fun e => ?_⟩
      exact absurd (h.one j i m n hj hi (by omega)) hji
  · have hx : ∀ j a, putN f i n' j = some a → ∃ a', f j = some a' ∧ a'.ep = a.ep := fun j a hj => by
      unfold putN at hj
      split at hj
      · rename_i e; obtain rfl := Option.some.inj hj; exact ⟨n, e ▸ hi, he.symm⟩
      · exact ⟨a, hj, rfl⟩
    obtain ⟨a', ha, ea⟩ := hx j a hj
    obtain ⟨b', hb, eb⟩ := hx k b hk
    exact h.one j k a' b' ha hb (by omega)
theorem lastE_le {l : List Rec} {e x : Int} (h : ∀ r ∈ l, r.ep ≤ x) (he : e ≤ x) : lastE e l ≤ x := by
  induction l generalizing e with
  | nil => exact he
  | cons q l ih => exact ih (fun r hr => h r (by simp [hr])) (h q (by simp))
theorem whole_snoc {d : Dsk} {l : List Rec} {r : Rec} (h : Whole d l) (hb : d.b = encAll l) (hr : chkR r = 0) (he : r.ep = d.ep) : Whole ⟨d.ep, d.b ++ encB r⟩ (l ++ [r]) := by
  refine ⟨h.rising.snoc r hr ?_, fun q hq => ?_, [], ?_, by simp⟩
  · have := lastE_le (e := 0) (x := d.ep) h.le ?_
    · omega
    · have := (chkR_range hr).1; omega
  · rcases List.mem_append.1 hq with hq | hq
    · exact h.le q hq
    · simp at hq; subst hq; dsimp only; omega
  · rw [encAll_append, hb]; simp [encAll]
theorem whole_torn {d : Dsk} {l : List Rec} {m : List UInt8} (h : Whole d l) (hb : d.b = encAll l) (hm : m.length < 9) : Whole ⟨d.ep, d.b ++ m⟩ l :=
  ⟨h.rising, h.le, m, by rw [hb], hm⟩
theorem take9 (r : Rec) : (encB r).take 9 = encB r := List.take_of_length_le (by rw [encB_len]; omega)
theorem written_ok {d : Dsk} (h : d.Ok) {m : List UInt8} {k : Nat} (hm : m.length ≤ k) (hk : d.b.length + k ≤ 1500) : (⟨d.ep, d.b ++ m⟩ : Dsk).Ok := ⟨h.ep, by simp; omega⟩

/-- What an order leaves: the records, one more where it was done. -/
theorem Fam.order {d : Dsk} {f : Nat → Option Nod} {l : List Rec} (h : Fam d f l) {i : Nat} {n : Nod} (hi : f i = some n) (o : Ord) :
    (n.order d o 9).2.1.ep = n.ep ∧ (n.order d o 9).1.ep = d.ep ∧
    (((n.order d o 9).2.2.code ≠ 0 ∧ (n.order d o 9).1 = d ∧ (n.order d o 9).2.2.job = 0 ∧ (n.order d o 9).2.2.tr = 0 ∧ Fam d (putN f i (n.order d o 9).2.1) l ∧
        ((n.order d o 9).2.1.down = false → (n.order d o 9).2.2.code ≠ 8 → (n.order d o 9).2.2 = ((behind l).did o).2)) ∨
     ((n.order d o 9).2.2.code = 0 ∧ (n.order d o 9).2.2 = ((behind l).did o).2 ∧ (n.order d o 9).2.1.down = false ∧ n.ep = d.ep ∧ chkR ⟨n.ep, o⟩ = 0 ∧ Fam (n.order d o 9).1 (putN f i (n.order d o 9).2.1) (l ++ [⟨n.ep, o⟩]))) := by
  have hs := h.sv i n hi
  have hw := h.wh ⟨i, n, hi⟩
  rcases order_cases (o := o) hs h.ok (Nat.le_refl 9) with ⟨a, e⟩ | ⟨a, b, e⟩ | ⟨a, b, c, e⟩ | ⟨a, b, c, g, e⟩ | ⟨a, b, c, g, hr, e⟩ <;> rw [e] <;> dsimp only
  · exact ⟨rfl, rfl, .inl ⟨by omega, rfl, rfl, rfl, h.same hi rfl hs, fun hh => by rw [a] at hh; cases hh⟩⟩
  · exact ⟨rfl, rfl, .inl ⟨by omega, rfl, rfl, rfl, h.same hi rfl ⟨hs.1, hs.2.1, fun _ hh => by cases hh⟩, fun hh => by cases hh⟩⟩
  · refine ⟨rfl, rfl, .inl ⟨c, rfl, ?_, ?_, h.same hi rfl hs, fun _ _ => by rw [(hs.2.2 b a).2]⟩⟩
    · rcases did_shape n.t o with ⟨_, _, e, _⟩ | ⟨_, _, _, _, _, e, _⟩
      · exact e
      · exact absurd e c
    · rcases did_shape n.t o with ⟨_, _, _, e⟩ | ⟨_, _, _, _, _, e, _⟩
      · exact e
      · exact absurd e c
  · exact ⟨rfl, rfl, .inl ⟨by omega, rfl, rfl, rfl, h.same hi rfl hs, fun _ hh => absurd rfl hh⟩⟩
  · obtain ⟨hb, ht⟩ := hs.2.2 b a
    refine ⟨rfl, rfl, .inr ⟨c, by rw [ht], rfl, b, hr, ?_⟩⟩
    rw [take9]
    refine h.wrote hi rfl b rfl (written_ok h.ok (by rw [encB_len]; omega) g) ⟨by dsimp only; exact hs.1, did_in hs.2.1 o, fun _ _ => ⟨?_, ?_⟩⟩ (whole_snoc hw hb hr b)
    · dsimp only; rw [encAll_append, hb]; simp [encAll]
    · dsimp only; rw [behind_snoc, ht]
/-- What a tear leaves. -/
theorem Fam.tear {d : Dsk} {f : Nat → Option Nod} {l : List Rec} (h : Fam d f l) {i : Nat} {n : Nod} (hi : f i = some n) (o : Ord) {k : Nat} (hk : k ≤ 9) :
    (n.tear d o k).2.1.ep = n.ep ∧ (n.tear d o k).1.ep = d.ep ∧
    (((n.tear d o k).2.2 ≠ 0 ∧ (n.tear d o k).1 = d ∧ Fam d (putN f i (n.tear d o k).2.1) l ∧ ((n.tear d o k).2.1.down = false → (n.tear d o k).2.2 = 8 ∨ (n.tear d o k).2.2 = ((behind l).did o).2.code) ∧ (n.ep = d.ep → n.down = false → (n.tear d o k).2.1.down = false)) ∨
     ((n.tear d o k).2.2 = 0 ∧ (n.tear d o k).2.1.down = true ∧ n.ep = d.ep ∧ n.down = false ∧ ((behind l).did o).2.code = 0 ∧ chkR ⟨n.ep, o⟩ = 0 ∧
       (k < 9 ∧ Fam (n.tear d o k).1 (putN f i (n.tear d o k).2.1) l ∨ k = 9 ∧ Fam (n.tear d o k).1 (putN f i (n.tear d o k).2.1) (l ++ [⟨n.ep, o⟩])))) := by
  have hs := h.sv i n hi
  have hw := h.wh ⟨i, n, hi⟩
  unfold Nod.tear
  rcases order_cases (o := o) hs h.ok hk with ⟨a, e⟩ | ⟨a, b, e⟩ | ⟨a, b, c, e⟩ | ⟨a, b, c, g, e⟩ | ⟨a, b, c, g, hr, e⟩ <;> rw [e] <;> dsimp only
  · rw [if_neg (by omega)]
    exact ⟨rfl, rfl, .inl ⟨by dsimp only; omega, rfl, h.same hi rfl hs, fun hh => (by dsimp only at hh; rw [a] at hh; cases hh), fun _ hh => by rw [a] at hh; cases hh⟩⟩
  · rw [if_neg (by omega)]
    exact ⟨rfl, rfl, .inl ⟨by dsimp only; omega, rfl, h.same hi rfl ⟨hs.1, hs.2.1, fun _ hh => by cases hh⟩, fun hh => (by cases hh), fun hh => by omega⟩⟩
  · rw [if_neg c]
    exact ⟨rfl, rfl, .inl ⟨c, rfl, h.same hi rfl hs, fun _ => .inr (by dsimp only; rw [(hs.2.2 b a).2]), fun _ _ => a⟩⟩
  · rw [if_neg (by omega)]
    exact ⟨rfl, rfl, .inl ⟨by dsimp only; omega, rfl, h.same hi rfl hs, fun _ => .inl rfl, fun _ _ => a⟩⟩
  · rw [if_pos c]
    obtain ⟨hb, ht⟩ := hs.2.2 b a
    have hl : ((encB ⟨n.ep, o⟩).take k).length = k := by rw [List.length_take, encB_len]; omega
    refine ⟨rfl, rfl, .inr ⟨c, rfl, b, a, by rw [← ht]; exact c, hr, ?_⟩⟩
    by_cases hk9 : k < 9
    · exact .inl ⟨hk9, h.wrote hi rfl b rfl (written_ok h.ok (by omega) g) ⟨by dsimp only; exact hs.1, hs.2.1, fun _ hh => by cases hh⟩ (whole_torn hw hb (by omega))⟩
    · obtain rfl : k = 9 := by omega
      refine .inr ⟨rfl, ?_⟩
      rw [take9]
      exact h.wrote hi rfl b rfl (written_ok h.ok (by rw [encB_len]; omega) g) ⟨by dsimp only; exact hs.1, hs.2.1, fun _ hh => by cases hh⟩ (whole_snoc hw hb hr b)
theorem Fam.stop {d : Dsk} {f : Nat → Option Nod} {l : List Rec} (h : Fam d f l) {i : Nat} {n : Nod} (hi : f i = some n) : Fam d (putN f i ⟨n.t, n.ep, true⟩) l :=
  have hs := h.sv i n hi
  h.same hi rfl ⟨hs.1, hs.2.1, fun _ hh => by cases hh⟩
theorem opened_ok {d : Dsk} (h : d.Ok) (hc : ¬ 100 ≤ d.ep) : (opened d).1.Ok := by
  rw [opened, if_neg hc]
  have := h.ep
  exact ⟨by dsimp only; omega, by have := h.b; simp; omega⟩
theorem Fam.open {d : Dsk} {f : Nat → Option Nod} {l : List Rec} (h : Fam d f l) (hc : ¬ 100 ≤ d.ep) (i : Nat) : Fam (opened d).1 (putN f i ⟨behind (found d), d.ep + 1, false⟩) (found d) := by
  have hd : (opened d).1.ep = d.ep + 1 := by rw [opened_yes hc]
  refine ⟨opened_ok h.ok hc, fun j m hj => ?_, fun j k a b hj hk hab => ?_, fun _ => whole_opened hc⟩
  · unfold putN at hj
    split at hj
    · obtain rfl := Option.some.inj hj; exact serves_opened hc h.ok.ep.1
    · exact serves_raised (h.sv j m hj) hd
  · unfold putN at hj hk
    split at hj <;> split at hk
    · omega
    · have h1 := (h.sv k b hk).1
      obtain rfl := Option.some.inj hj
      dsimp only at hab; omega
    · have h1 := (h.sv j a hj).1
      obtain rfl := Option.some.inj hk
      dsimp only at hab; omega
    · exact h.one j k a b hj hk hab
/-- Opened, and not kept. -/
theorem Fam.openNo {d : Dsk} {f : Nat → Option Nod} {l : List Rec} (h : Fam d f l) (hc : ¬ 100 ≤ d.ep) : Fam (opened d).1 f (found d) := by
  have hd : (opened d).1.ep = d.ep + 1 := by rw [opened_yes hc]
  exact ⟨opened_ok h.ok hc, fun j m hj => serves_raised (h.sv j m hj) hd, h.one, fun _ => whole_opened hc⟩
theorem Fam.found {d : Dsk} {f : Nat → Option Nod} {l : List Rec} (h : Fam d f l) (hn : ∃ i n, f i = some n) : found d = l := (h.wh hn).found
theorem Fam.empty {d : Dsk} (h : d.Ok) (l : List Rec) : Fam d (fun _ => none) l := ⟨h, fun _ _ h => (by cases h), fun _ _ _ _ h => (by cases h), fun ⟨_, _, h⟩ => (by cases h)⟩
end Go.Proofs.Ytfihmpkkpgmdhab
