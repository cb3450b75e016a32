/-
  What the proof of DeskDoes leans on: definitions, laws, contracts of functions. No condition besides those that each theorem names.
-/
import Derived.Test.YtfihmpkkpgmdhaaGreatDoorZD02
set_option maxRecDepth 100000
set_option maxHeartbeats 16000000
set_option linter.unusedVariables false
set_option linter.unusedSimpArgs false
set_option linter.unnecessarySimpa false
namespace Go.Proofs.YtfihmpkkpgmdhaaGreatDoor
open Go.RowKit
structure HP where
 on:(Nat→Prop)→World→Prop
 lt:∀ {F:Nat→Prop} {w:World},on F w→∀ k,F k→k<w.heap.size
 keep:∀ {F:Nat→Prop} {w w':World},on F w→(∀ k,F k→w'.heap[k]? = w.heap[k]?)→on F w'
theorem HP.ext' {A B:HP} (h:∀ F w,A.on F w↔B.on F w):A=B:=by
 obtain ⟨a,_,_⟩:=A
 obtain ⟨b,_,_⟩:=B
 have:a=b:=by funext F w;exact propext (h F w)
 subst this
 rfl
def HP.sep (A B:HP):HP where
 on F w := ∃ F1 F2:Nat→Prop,(∀ k,F1 k→¬ F2 k)∧(∀ k,F k↔F1 k∨F2 k)∧A.on F1 w∧B.on F2 w
 lt:=fun ⟨F1,F2,_,hF,ha,hb⟩ k hk=>((hF k).1 hk).elim (A.lt ha k) (B.lt hb k)
 keep:=fun ⟨F1,F2,hd,hF,ha,hb⟩ h=>⟨F1,F2,hd,hF,A.keep ha fun k hk=>h k ((hF k).2 (.inl hk)),B.keep hb fun k hk=>h k ((hF k).2 (.inr hk))⟩
instance : Mul HP:=⟨HP.sep⟩
theorem HP.comm (A B:HP):A*B=B*A:=HP.ext' fun F w=>⟨fun ⟨F1,F2,hd,hF,ha,hb⟩=>⟨F2,F1,fun k h2 h1=>hd k h1 h2,fun k=>(hF k).trans Or.comm,hb,ha⟩,fun ⟨F1,F2,hd,hF,ha,hb⟩=>⟨F2,F1,fun k h2 h1=>hd k h1 h2,fun k=>(hF k).trans Or.comm,hb,ha⟩⟩
theorem HP.assoc (A B C:HP):A*B*C=A*(B*C):=HP.ext' fun F w=>by
 constructor
 ·rintro ⟨F12,F3,hd,hF,⟨F1,F2,hd',hF',ha,hb⟩,hc⟩
  refine ⟨F1,fun k=>F2 k∨F3 k,fun k h1 h2=>?_,fun k=>?_,ha,F2,F3,fun k h2 h3=>hd k ((hF' k).2 (.inr h2)) h3,fun k=>Iff.rfl,hb,hc⟩
  ·rcases h2 with h2|h2
   ·exact hd' k h1 h2
   ·exact hd k ((hF' k).2 (.inl h1)) h2
  ·rw [hF,hF',or_assoc]
 ·rintro ⟨F1,F23,hd,hF,ha,F2,F3,hd',hF',hb,hc⟩
  refine ⟨fun k=>F1 k∨F2 k,F3,fun k h1 h3=>?_,fun k=>?_,⟨F1,F2,fun k h1 h2=>hd k h1 ((hF' k).2 (.inl h2)),fun k=>Iff.rfl,ha,hb⟩,hc⟩
  ·rcases h1 with h1|h1
   ·exact hd k h1 ((hF' k).2 (.inr h3))
   ·exact hd' k h1 h3
  ·rw [hF,hF',or_assoc]
instance : Std.Associative (α:=HP) (· * ·):=⟨HP.assoc⟩
instance : Std.Commutative (α:=HP) (· * ·):=⟨HP.comm⟩
def HP.emp:HP where
 on F w := ∀ k,¬ F k
 lt:=fun h k hk=>absurd hk (h k)
 keep:=fun h _=>h
def HP.ex {α:Type} (A:α→HP):HP where
 on F w := ∃ x,(A x).on F w
 lt:=fun ⟨x,h⟩=>(A x).lt h
 keep:=fun ⟨x,h⟩ hk=>⟨x,(A x).keep h hk⟩
def HP.wi (p:Prop) (A:HP):HP where
 on F w:=p∧A.on F w
 lt:=fun h=>A.lt h.2
 keep:=fun h hk=>⟨h.1,A.keep h.2 hk⟩
def Holds (w:World) (A:HP):Prop := ∃ F,A.on F w
theorem Holds.eq {w:World} {A B:HP} (h:Holds w A) (e:A=B):Holds w B:=e▸h
theorem Holds.left {w:World} {A B:HP} (h:Holds w (A*B)):Holds w A:=by
 obtain ⟨F,F1,F2,_,_,ha,_⟩:=h
 exact ⟨F1,ha⟩
theorem Holds.right {w:World} {A B:HP} (h:Holds w (A*B)):Holds w B:=by
 obtain ⟨F,F1,F2,_,_,_,hb⟩:=h
 exact ⟨F2,hb⟩
theorem Holds.swap {w:World} {A B:HP} (h:Holds w (A*B)):Holds w (B*A):=h.eq (HP.comm _ _)
theorem Holds.two {w:World} {A B C:HP} (h:Holds w (A*(B*C))):Holds w (B*(A*C)):=h.eq (by ac_rfl)
theorem Holds.three {w:World} {A B C D:HP} (h:Holds w (A*(B*(C*D)))):Holds w (C*(A*(B*D))):=h.eq (by ac_rfl)
theorem Holds.four {w:World} {A B C D E:HP} (h:Holds w (A*(B*(C*(D*E))))):Holds w (D*(A*(B*(C*E)))):=h.eq (by ac_rfl)
theorem Holds.imp {w:World} {A B R:HP} (h:Holds w (A*R)) (hi:∀ F,A.on F w→B.on F w):Holds w (B*R):=by
 obtain ⟨F,F1,F2,hd,hF,ha,hb⟩:=h
 exact ⟨F,F1,F2,hd,hF,hi _ ha,hb⟩
theorem Holds.open {w:World} {A R:HP} (h:Holds w (A*R)):∃ F,A.on F w∧∀ (w':World) (F':Nat→Prop) (B:HP),B.on F' w'→Upd F w w'→From w F F'→Holds w' (B*R):=by
 obtain ⟨F,F1,F2,hd,hF,ha,hb⟩:=h
 refine ⟨F1,ha,fun w' F' B hB hu hf=>?_⟩
 refine ⟨_,F',F2,fun k h1 h2=>?_,fun k=>Iff.rfl,hB,R.keep hb fun k hk=>hu.block k (R.lt hb k hk) fun h=>hd k h hk⟩
 rcases hf k h1 with h3|h3
 ·exact hd k h3 h2
 ·have:=R.lt hb k h2;omega
theorem Holds.to {w w':World} {A:HP} (h:Holds w A) (hb:∀ k,k<w.heap.size→w'.heap[k]? = w.heap[k]?):Holds w' A:=by
 obtain ⟨F,ha⟩:=h
 exact ⟨F,A.keep ha fun k hk=>hb k (A.lt ha k hk)⟩
theorem Holds.below {w w':World} {A:HP} (h:Holds w A) (hb:Below w.heap.size w w'):Holds w' A:=h.to hb.block
theorem Holds.drew {w:World} {A:HP} (h:Holds w A):Holds w.drew A:=h.to fun _ _=>rfl
theorem Holds.drewN {w:World} {A:HP} (h:Holds w A) (n:Nat):Holds (w.drewN n) A:=h.to fun _ _=>rfl
theorem Holds.alloc {w:World} {A:HP} (h:Holds w A) (o:Obj):Holds (w.alloc o) A:=h.to fun k hk=>Below.heap_alloc w o k hk
theorem Holds.new {w w':World} {A B:HP} (h:Holds w A) (hb:∀ k,k<w.heap.size→w'.heap[k]? = w.heap[k]?) {F:Nat→Prop} (hB:B.on F w') (hF:∀ k,F k→w.heap.size≤k):Holds w' (B*A):=by
 obtain ⟨G,ha⟩:=h
 exact ⟨_,F,G,fun k h1 h2=>by have:=hF k h1;have:=A.lt ha k h2;omega,fun k=>Iff.rfl,hB,A.keep ha fun k hk=>hb k (A.lt ha k hk)⟩
def bl (b:Nat) (ty:TypeId) (cs:List Value):HP where
 on F w:=BlockAt w b ty cs∧F=fun k=>k=b
 lt:=by rintro F w ⟨h,rfl⟩ k rfl;exact h.lt
 keep:=by rintro F w w' ⟨h,rfl⟩ hk;exact ⟨by unfold BlockAt at *;rw [hk b rfl];exact h,rfl⟩
def ownb (v:Value) (l:List UInt8):HP where
 on F w:=OwnB w v l∧F=fun k=>v.ownBlock=some k
 lt:=by rintro F w ⟨h,rfl⟩ k hk;exact h.lt hk
 keep:=by
  rintro F w w' ⟨h,rfl⟩ hk
  refine ⟨?_,rfl⟩
  rcases h with h|⟨g,cap,cur,rfl,hb,hr⟩
  ·exact .inl h
  ·exact .inr ⟨g,cap,cur,rfl,by unfold BlockAt at *;rw [hk g rfl];exact hb,hr⟩
def old (w0:World):HP where
 on F w:=(∀ k,k<w0.heap.size→w.heap[k]? = w0.heap[k]?)∧F=fun k=>k<w0.heap.size
 lt:=by
  rintro F w ⟨h,rfl⟩ k hk
  have:=h k hk
  rw [Array.getElem?_eq_getElem hk] at this
  exact (Array.getElem?_eq_some_iff.1 this).1
 keep:=by rintro F w w' ⟨h,rfl⟩ hk;exact ⟨fun k h1=>(hk k h1).trans (h k h1),rfl⟩
structure Quiet (w w':World):Prop where
 os:w'.os=w.os
 tape:w'.tape=w.tape
 output:w'.output=w.output
 size:w.heap.size≤w'.heap.size
theorem Quiet.refl (w:World):Quiet w w:=⟨rfl,rfl,rfl,Nat.le_refl _⟩
theorem Quiet.trans {a b c:World} (h:Quiet a b) (k:Quiet b c):Quiet a c:=⟨k.os.trans h.os,k.tape.trans h.tape,k.output.trans h.output,Nat.le_trans h.size k.size⟩
theorem Quiet.below {a b:World} {B:Nat} (k:Below B a b):Quiet a b:=⟨k.os,k.tape,k.output,k.size⟩
theorem Quiet.grown {a b:World} {r:Option Nat} (k:a.grownBy b r):Quiet a b:=⟨k.os,k.tape,k.output,k.size⟩
theorem Quiet.upd {a b:World} {F:Nat→Prop} (k:Upd F a b):Quiet a b:=⟨k.os,k.tape,k.output,k.size⟩
theorem Quiet.alloc {a b:World} (h:Quiet a b) (o:Obj):Quiet a (b.alloc o):=⟨h.os,h.tape,h.output,Nat.le_trans h.size (by simp)⟩
theorem Quiet.drew {a b:World} (h:Quiet a b):Quiet a b.drew:=⟨h.os,h.tape,h.output,h.size⟩
theorem Quiet.drewN {a b:World} (h:Quiet a b) (n:Nat):Quiet a (b.drewN n):=⟨h.os,h.tape,h.output,h.size⟩
theorem Quiet.setCell {a b:World} (h:Quiet a b) (p:Addr) (u:Value):Quiet a (b.setCell p u):=⟨h.os,h.tape,h.output,by simpa [World.setCell] using h.size⟩
theorem Holds.old {w:World}:Holds w (old w):=⟨_,fun _ _=>rfl,rfl⟩
theorem Holds.toBelow' {w0 w:World} (h:Holds w (Go.Proofs.YtfihmpkkpgmdhaaGreatDoor.old w0)) (q:Quiet w0 w):Below w0.heap.size w0 w:=by
 obtain ⟨F,h,rfl⟩:=h
 exact ⟨q.os,q.tape,q.output,q.size,h⟩
theorem Holds.bl {w:World} {b:Nat} {ty:TypeId} {cs:List Value} {A:HP} (h:Holds w (bl b ty cs*A)):BlockAt w b ty cs:=by
 obtain ⟨F,h,_⟩:=h.left
 exact h
theorem Holds.ownb {w:World} {v:Value} {l:List UInt8} {A:HP} (h:Holds w (ownb v l*A)):OwnB w v l:=by
 obtain ⟨F,h,_⟩:=h.left
 exact h
theorem Holds.allocB {w:World} {A:HP} (h:Holds w A) (ty:TypeId) (cs:List Value):Holds (w.alloc (.cells cs.toArray ty)) (Go.Proofs.YtfihmpkkpgmdhaaGreatDoor.bl w.heap.size ty cs*A):=
 h.new (fun k hk=>Below.heap_alloc w _ k hk) ⟨BlockAt.new w ty cs,rfl⟩ (by rintro k rfl;exact Nat.le_refl _)
theorem Holds.setB {w:World} {b:Nat} {ty:TypeId} {cs:List Value} {A:HP} (h:Holds w (Go.Proofs.YtfihmpkkpgmdhaaGreatDoor.bl b ty cs*A)) (o:Nat) (v:Value):Holds (w.setCell ⟨b,o,none⟩ v) (Go.Proofs.YtfihmpkkpgmdhaaGreatDoor.bl b ty (cs.set o v)*A):=by
 obtain ⟨F,⟨hb,rfl⟩,hn⟩:=h.open
 exact hn _ _ _ ⟨hb.set o v,rfl⟩ (Upd.setCell (F:=fun k=>k=b) (p:=⟨b,o,none⟩) (Upd.refl _ w) (.inl rfl) v) (From.refl _ _)
theorem Holds.grown {w w':World} {b:Nat} {ty:TypeId} {cs cs':List Value} {A:HP} (h:Holds w (Go.Proofs.YtfihmpkkpgmdhaaGreatDoor.bl b ty cs*A)) (hg:w.grownBy w' (some b)) (hb:BlockAt w' b ty cs'):Holds w' (Go.Proofs.YtfihmpkkpgmdhaaGreatDoor.bl b ty cs'*A):=by
 obtain ⟨F,⟨_,rfl⟩,hn⟩:=h.open
 exact hn _ _ _ ⟨hb,rfl⟩ ((Upd.of_grown hg).mono (by rintro k h;simp at h;exact h.symm)) (From.refl _ _)
theorem Holds.newB {w w':World} {b:Nat} {ty:TypeId} {cs:List Value} {A:HP} (h:Holds w A) (hb:Below w.heap.size w w') (hn:BlockAt w' b ty cs) (hl:w.heap.size≤b):Holds w' (Go.Proofs.YtfihmpkkpgmdhaaGreatDoor.bl b ty cs*A):=
 h.new hb.block ⟨hn,rfl⟩ (by rintro k rfl;exact hl)
theorem Holds.newO {w w':World} {v:Value} {l:List UInt8} {A:HP} (h:Holds w A) (hb:Below w.heap.size w w') (hn:OwnB w' v l) (hl:∀ k,v.ownBlock=some k→w.heap.size≤k):Holds w' (Go.Proofs.YtfihmpkkpgmdhaaGreatDoor.ownb v l*A):=
 h.new hb.block ⟨hn,rfl⟩ hl
theorem Holds.frame {w w':World} {Q R:HP} (h:Holds w' (Q*Go.Proofs.YtfihmpkkpgmdhaaGreatDoor.old w)) (hR:Holds w R):Holds w' (Q*R):=by
 obtain ⟨F,F1,F2,hd,hF,ha,ho,rfl⟩:=h
 obtain ⟨G,hG⟩:=hR
 exact ⟨_,F1,G,fun k h1 h2=>hd k h1 (R.lt hG k h2),fun k=>Iff.rfl,ha,R.keep hG fun k hk=>ho k (R.lt hG k hk)⟩
theorem Holds.frame0 {w w':World} {R:HP} (h:Holds w' (Go.Proofs.YtfihmpkkpgmdhaaGreatDoor.old w)) (hR:Holds w R):Holds w' R:=by
 obtain ⟨F,ho,rfl⟩:=h
 exact hR.to ho
theorem Holds.block {w0 w:World} (h:Holds w (Go.Proofs.YtfihmpkkpgmdhaaGreatDoor.old w0)):∀ k,k<w0.heap.size→w.heap[k]? = w0.heap[k]? := by
 obtain ⟨F,ho,rfl⟩:=h
 exact ho
def Post (w:World) (R:HP) (v:Value) (Q:HP) (e:Ending) (w':World):Prop:=e=.returned v∧Quiet w w'∧Holds w' (Q*R)
def PostN (w:World) (R:HP) (v:Value) (e:Ending) (w':World):Prop:=e=.returned v∧Quiet w w'∧Holds w' R
def PostX {α:Type} (w:World) (R:HP) (v:α→Value) (Q:α→HP) (e:Ending) (w':World):Prop := ∃ x,e=.returned (v x)∧Quiet w w'∧Holds w' (Q x*R)
end Go.Proofs.YtfihmpkkpgmdhaaGreatDoor
section
namespace Go.Proofs.YtfihmpkkpgmdhaaGreatDoor
open Go.RowKit
def RowAt (w:World) (v:Value) (n:Nat) (cs:List Value):Prop:=
 ∃ a c,v=.slice a n c∧n≤c∧c≤maxLen∧(a=none→c=0)∧(n≠0→∃ g off,a=some ⟨g,off,none⟩∧∀ j u,cs[j]? = some u→w.cell? ⟨g,off+j,none⟩=some u)
def OwnRow (w:World) (e:TypeId) (size:Nat) (v:Value) (n:Nat) (xs:List Value):Prop:=
 xs.length=n*size∧Ones xs∧((v=.slice none 0 0∧n=0) ∨
  ∃ g cap cur,v=.slice (some ⟨g,0,none⟩) n cap∧BlockAt w g e cur∧n≤cap∧cap*size≤cur.length∧cap≤maxLen∧cur.take (n*size)=xs)
theorem RowAt.upd {F:Nat→Prop} {w w':World} {v:Value} {n:Nat} {cs:List Value} (h:RowAt w v n cs) (hu:Upd F w w') (hf:∀ k,v.ownBlock=some k→¬ F k) (hc:cs.length≠0→n≠0):RowAt w' v n cs:=by
 obtain ⟨a,c,rfl,h1,h2,h3,h4⟩:=h
 refine ⟨a,c,rfl,h1,h2,h3,fun hl=>?_⟩
 obtain ⟨g,off,rfl,h5⟩:=h4 hl
 refine ⟨g,off,rfl,fun j u hj=>?_⟩
 have hcc:=h5 j u hj
 rw [World.cell?_of_block (hu.block g (block_lt_of_cell hcc) (hf g rfl))]
 exact hcc
theorem RowAt.to {w w':World} {v:Value} {n:Nat} {cs:List Value} (h:RowAt w v n cs) (hb:∀ k,k<w.heap.size→w'.heap[k]? = w.heap[k]?):RowAt w' v n cs:=by
 obtain ⟨a,c,rfl,h1,h2,h3,h4⟩:=h
 refine ⟨a,c,rfl,h1,h2,h3,fun hl=>?_⟩
 obtain ⟨g,off,rfl,h5⟩:=h4 hl
 refine ⟨g,off,rfl,fun j u hj=>?_⟩
 have hcc:=h5 j u hj
 rw [World.cell?_of_block (hb g (block_lt_of_cell hcc))]
 exact hcc
theorem RowAt.below {w w':World} {v:Value} {n:Nat} {cs:List Value} (h:RowAt w v n cs) (hb:Below w.heap.size w w'):RowAt w' v n cs:=h.to hb.block
theorem RowAt.drew {w:World} {v:Value} {n:Nat} {cs:List Value} (h:RowAt w v n cs):RowAt w.drew v n cs:=h
theorem RowAt.alloc {w:World} {v:Value} {n:Nat} {cs:List Value} (h:RowAt w v n cs) (o:Obj):RowAt (w.alloc o) v n cs:=h.to fun k hk=>Below.heap_alloc w o k hk
theorem RowAt.old {w0 w:World} {v:Value} {n:Nat} {cs:List Value} {A:HP} (h:RowAt w0 v n cs) (hh:Holds w (A*old w0)):RowAt w v n cs:=by
 obtain ⟨F,h1,rfl⟩:=hh.right
 exact h.to h1
theorem RowAt.shape {w:World} {v:Value} {n:Nat} {cs:List Value} (h:RowAt w v n cs):∃ a c,v=.slice a n c∧n≤c∧c≤9223372036854775807:=by
 obtain ⟨a,c,rfl,h1,h2,_⟩:=h
 exact ⟨a,c,rfl,h1,by unfold maxLen at h2;omega⟩
theorem RowAt.get {w:World} {v:Value} {n:Nat} {cs:List Value} (h:RowAt w v n cs) (h0:n≠0):∃ g off c,v=.slice (some ⟨g,off,none⟩) n c∧n≤c∧c≤9223372036854775807∧∀ j u,cs[j]? = some u→w.cell? ⟨g,off+j,none⟩=some u:=by
 obtain ⟨a,c,rfl,h1,h2,_,h4⟩:=h
 obtain ⟨g,off,rfl,h5⟩:=h4 h0
 exact ⟨g,off,c,rfl,h1,by unfold maxLen at h2;omega,h5⟩
theorem RowAt.bytes {w:World} {v:Value} {l:List UInt8} (h:RowAt w v l.length (bvs l)):BytesAt w v l:=by
 obtain ⟨a,c,rfl,h1,h2,h3,h4⟩:=h
 exact ⟨a,c,rfl,h1,h2,h3,fun hl=>h4 (by intro e;exact hl (List.length_eq_zero_iff.1 e))⟩
theorem BytesAt.row {w:World} {v:Value} {l:List UInt8} (h:BytesAt w v l):RowAt w v l.length (bvs l):=by
 obtain ⟨a,c,rfl,h1,h2,h3,h4⟩:=h
 exact ⟨a,c,rfl,h1,h2,h3,fun hl=>h4 (by rintro rfl;exact hl rfl)⟩
theorem BytesAt.to {w w':World} {v:Value} {l:List UInt8} (h:BytesAt w v l) (hb:∀ k,k<w.heap.size→w'.heap[k]? = w.heap[k]?):BytesAt w' v l:=(h.row.to hb).bytes
theorem BytesAt.old {w0 w:World} {v:Value} {l:List UInt8} {A:HP} (h:BytesAt w0 v l) (hh:Holds w (A*Go.Proofs.YtfihmpkkpgmdhaaGreatDoor.old w0)):BytesAt w v l:=(h.row.old hh).bytes
theorem OwnRow.nil (w:World) (e:TypeId) (size:Nat):OwnRow w e size (.slice none 0 0) 0 []:=⟨by simp,(fun _ h=>by cases h),.inl ⟨rfl,rfl⟩⟩
theorem OwnRow.row {w:World} {e:TypeId} {size:Nat} {v:Value} {n:Nat} {xs:List Value} (h:OwnRow w e size v n xs):RowAt w v n xs:=by
 obtain ⟨h0,ho,⟨rfl,rfl⟩|⟨g,cap,cur,rfl,hb,h1,h2,h3,h4⟩⟩:=h
 ·exact ⟨none,0,rfl,Nat.le_refl _,Nat.zero_le _,fun _=>rfl,fun h=>absurd rfl h⟩
 ·refine ⟨_,cap,rfl,h1,h3,(fun e=>by cases e),fun _=>⟨g,0,rfl,fun j u hu=>?_⟩⟩
  rw [Nat.zero_add]
  refine hb.cell j u ?_
  rw [←h4,List.getElem?_take] at hu
  split at hu
  ·exact hu
  ·cases hu
theorem OwnRow.lt {w:World} {e:TypeId} {size:Nat} {v:Value} {n:Nat} {xs:List Value} (h:OwnRow w e size v n xs) {k:Nat} (hk:v.ownBlock=some k):k<w.heap.size:=by
 obtain ⟨_,_,⟨rfl,_⟩|⟨g,cap,cur,rfl,hb,_⟩⟩:=h
 ·simp [Value.ownBlock] at hk
 ·simp [Value.ownBlock] at hk
  subst hk
  exact hb.lt
theorem OwnRow.bytes {w:World} {v:Value} {l:List UInt8} (h:OwnRow w 5 1 v l.length (bvs l)):OwnB w v l:=by
 obtain ⟨h0,ho,⟨rfl,h⟩|⟨g,cap,cur,rfl,hb,h1,h2,h3,h4⟩⟩:=h
 ·exact .inl ⟨rfl,List.length_eq_zero_iff.1 h⟩
 ·exact .inr ⟨g,cap,cur,rfl,hb,h1,by omega,h3,by simpa using h4⟩
theorem OwnB.row {w:World} {v:Value} {l:List UInt8} (h:OwnB w v l):OwnRow w 5 1 v l.length (bvs l):=by
 rcases h with ⟨rfl,rfl⟩|⟨g,cap,cur,rfl,hb,h1,h2,h3,h4⟩
 ·exact OwnRow.nil _ _ _
 ·exact ⟨by simp,bvs_ones l,.inr ⟨g,cap,cur,rfl,hb,h1,by omega,h3,by simpa using h4⟩⟩
theorem OwnRow.new (w:World) (e:TypeId) (size n:Nat) (cs:List Value) (h:cs.length=n*size) (h1:Ones cs) (hn:n≤1000000):OwnRow (w.alloc (.cells cs.toArray e)) e size (.slice (some ⟨w.heap.size,0,none⟩) n n) n cs:=
 ⟨h,h1,.inr ⟨_,n,cs,rfl,BlockAt.new w e _,Nat.le_refl _,by omega,by unfold maxLen;omega,List.take_of_length_le (by omega)⟩⟩
def rw_ (e:TypeId) (size:Nat) (v:Value) (n:Nat) (xs:List Value):HP where
 on F w:=OwnRow w e size v n xs∧F=fun k=>v.ownBlock=some k
 lt:=by rintro F w ⟨h,rfl⟩ k hk;exact h.lt hk
 keep:=by
  rintro F w w' ⟨h,rfl⟩ hk
  refine ⟨?_,rfl⟩
  obtain ⟨h0,ho,h|⟨g,cap,cur,rfl,hb,hr⟩⟩:=h
  ·exact ⟨h0,ho,.inl h⟩
  ·exact ⟨h0,ho,.inr ⟨g,cap,cur,rfl,by unfold BlockAt at *;rw [hk g rfl];exact hb,hr⟩⟩
theorem Holds.own {w:World} {e:TypeId} {size:Nat} {v:Value} {n:Nat} {xs:List Value} {A:HP} (h:Holds w (rw_ e size v n xs*A)):OwnRow w e size v n xs:=by
 obtain ⟨F,h,_⟩:=h.left
 exact h
theorem Holds.row {w:World} {e:TypeId} {size:Nat} {v:Value} {n:Nat} {xs:List Value} {A:HP} (h:Holds w (rw_ e size v n xs*A)):RowAt w v n xs:=h.own.row
theorem Holds.nilRow {w:World} {A:HP} (h:Holds w A) (e:TypeId) (size:Nat):Holds w (rw_ e size (.slice none 0 0) 0 []*A):=
 h.new (fun _ _=>rfl) ⟨OwnRow.nil _ _ _,rfl⟩ (by intro k hk;simp [Value.ownBlock] at hk)
theorem Holds.allocRow {w:World} {A:HP} (h:Holds w A) (e:TypeId) (size n:Nat) (cs:List Value) (hl:cs.length=n*size) (h1:Ones cs) (hn:n≤1000000):Holds (w.alloc (.cells cs.toArray e)) (rw_ e size (.slice (some ⟨w.heap.size,0,none⟩) n n) n cs*A):=
 h.new (fun k hk=>Below.heap_alloc w _ k hk) ⟨OwnRow.new w e size n cs hl h1 hn,rfl⟩ (by intro k hk;simp [Value.ownBlock] at hk;omega)
theorem ownb_row (v:Value) (l:List UInt8):ownb v l=rw_ 5 1 v l.length (bvs l):=HP.ext' fun F w=>⟨fun ⟨h,e⟩=>⟨h.row,e⟩,fun ⟨h,e⟩=>⟨h.bytes,e⟩⟩
theorem RowAt.box {w:World} {e:TypeId} {n:Nat} {cs:List Value} (hn:n≤1000000) {g:Nat} (hg:w.heap.size=g):RowAt (w.alloc (.cells cs.toArray e)) (.slice (some ⟨g,0,none⟩) n n) n cs:=by
 subst hg
 exact ⟨_,n,rfl,Nat.le_refl _,by unfold maxLen;omega,(fun e=>by cases e),fun _=>⟨_,_,rfl,fun j u hu=>by rw [Nat.zero_add];exact (BlockAt.new w e cs).cell j u hu⟩⟩
theorem Holds.boxB {w:World} {A:HP} (h:Holds w A) {ty:TypeId} {cs:List Value} {g:Nat} (hg:w.heap.size=g):Holds (w.alloc (.cells cs.toArray ty)) (Go.Proofs.YtfihmpkkpgmdhaaGreatDoor.bl g ty cs*A):=by
 subst hg
 exact h.allocB ty cs
theorem Holds.boxRow {w:World} {A:HP} (h:Holds w A) {e:TypeId} (size:Nat) {n:Nat} {cs:List Value} (hl:cs.length=n*size) (h1:Ones cs) (hn:n≤1000000) {g:Nat} (hg:w.heap.size=g):Holds (w.alloc (.cells cs.toArray e)) (rw_ e size (.slice (some ⟨g,0,none⟩) n n) n cs*A):=by
 subst hg
 exact h.allocRow e size n cs hl h1 hn
section
variable {P:Program}
theorem run_append_row {w:World} (t ty e:TypeId) (i:TypeInfo) (z:Value) (size bytes:Nat) (ht:P.underlying t=some (.slice e)) (hi:P.info? e=some i) (hz:i.zero=some z) (hsz:i.size=size) (hby:i.bytes=bytes) (hzs:z.cells.size=size) (hs0:0<size)
  {v y:Value} {n m:Nat} {xs ys:List Value} (hv:OwnRow w e size v n xs) (hy:RowAt w y m ys) (hyl:ys.length=m*size) (hy1:Ones ys) (hlen:(n+m)*bytes≤140737488355328) (hnm:n+m≤140737488355328) :
  ∃ v' w',(Builtin.append_ #[t,t] ty #[v,y]).run P w=.ok v' w'∧OwnRow w' e size v' (n+m) (xs++ys)∧Upd (fun k=>v.ownBlock=some k) w w'∧(∀ k,v'.ownBlock=some k→v.ownBlock=some k∨w.heap.size≤k):=by
 subst hsz
 subst hby
 have hml:maxLen=9223372036854775807:=rfl
 obtain ⟨ya,yc,rfl,y1,y2,y3,y4⟩:=hy
 obtain ⟨hxl,hx1,hv⟩:=hv
 by_cases hm:m=0
 ·subst hm
  have hye:ys=[]:=List.length_eq_zero_iff.1 (by simpa using hyl)
  subst hye
  refine ⟨v,w,?_,by rw [Nat.add_zero,List.append_nil];exact ⟨hxl,hx1,hv⟩,Upd.refl _ _,fun k hk=>.inl hk⟩
  rcases hv with ⟨rfl,rfl⟩|⟨g,cap,cur,rfl,hb,h1,h2,h3,h4⟩
  ·cases ya<;>simp [Builtin.append_,run_underlying ht,sizeOf,typeInfo,hi,Builtin.lenOf,Builtin.firstCells,loadCells,loadCellsFrom]
  ·cases ya<;>simp [Builtin.append_,run_underlying ht,sizeOf,typeInfo,hi,Builtin.lenOf,Builtin.firstCells,loadCells,loadCellsFrom,h1,storeCells]
 ·obtain ⟨yg,yo,rfl,y5⟩:=y4 hm
  have hnews:∀ j u,ys[j]? = some u→w.cell? ((⟨yg,yo,none⟩:Addr).add j)=some u:=fun j u hj=>by
   rw [Addr.add_lit];exact y5 j u hj
  have hm0:0<m:=Nat.pos_of_ne_zero hm
  have hones:Ones (xs++ys):=fun u hu=>(List.mem_append.1 hu).elim (hx1 u) (hy1 u)
  have hsum:(xs++ys).length=(n+m)*i.size:=by rw [List.length_append,hxl,hyl,Nat.add_mul]
  have grown:∀ old,old<n+m →
    OwnRow (w.drew.alloc (.cells (xs.toArray++ys.toArray++Builtin.zeroCells (Value.cells z) (grownCap w (n+m) old e-(n+m))) e)) e i.size
     (.slice (some ⟨w.heap.size,0,none⟩) (n+m) (grownCap w (n+m) old e)) (n+m) (xs++ys):=fun old _=>by
   have hge:=grownCap_ge w (n+m) old e
   have hcm:=grownCap_le_maxLen w (n+m) old e (by omega)
   refine ⟨hsum,hones,.inr ⟨w.heap.size,_,xs++ys++(Builtin.zeroCells (Value.cells z) (grownCap w (n+m) old e-(n+m))).toList,rfl,?_,by simpa using hge,?_,hcm,?_⟩⟩
   ·exact laid_three w.drew e _ _ _
   ·rw [List.length_append,hsum,Array.length_toList,size_zeroCells,hzs,←Nat.add_mul]
    exact Nat.mul_le_mul_right _ (by omega)
   ·rw [List.take_append_of_le_length (by omega)]
    exact List.take_of_length_le (by omega)
  rcases hv with ⟨rfl,rfl⟩|⟨g,cap,cur,rfl,hb,h1,h2,h3,h4⟩
  ·have hxe:xs=[]:=List.length_eq_zero_iff.1 (by simpa using hxl)
   subst hxe
   have hr:=run_append_nil (P:=P) w t ty e i z ht hi hz ⟨yg,yo,none⟩ m yc ys (by omega) hnews hm0 (by omega) (by rw [Nat.zero_add] at hlen;omega)
   have hg:=grown 0 (by omega)
   simp only [Nat.zero_add,List.nil_append] at hg hr ⊢
   refine ⟨_,_,hr,by simpa using hg,?_,fun k hk=>.inr ?_⟩
   ·exact (Upd.drew (Upd.refl _ w)).alloc _
   ·simp [Value.ownBlock] at hk;omega
  ·by_cases hroom:n+m≤cap
   ·have hcs:(n+m)*i.size≤cur.length:=Nat.le_trans (Nat.mul_le_mul_right _ hroom) h2
    have hr:=run_append_room (P:=P) w t ty e i ht hi g n cap cur.toArray hb ⟨yg,yo,none⟩ m yc ys (by omega) hnews hy1 hroom (by rw [List.size_toArray,hyl,←Nat.add_mul];exact hcs)
    refine ⟨_,_,hr,⟨hsum,hones,.inr ⟨g,cap,(xs++ys++cur.drop ((n+m)*i.size)),rfl,?_,hroom,?_,h3,?_⟩⟩,?_,fun k hk=>.inl hk⟩
    ·have:=hb.setRow (cur.take (n*i.size)++ys++cur.drop ((n+m)*i.size))
     rw [h4] at this
     have he:n*i.size+m*i.size=(n+m)*i.size:=(Nat.add_mul _ _ _).symm
     simpa [h4,hyl,he] using this
    ·rw [List.length_append,hsum,List.length_drop];omega
    ·rw [List.take_append_of_le_length (by omega)]
     exact List.take_of_length_le (by omega)
    ·exact (Upd.of_grown (grown_setRow (grown_refl w _) _)).mono fun k hk=>hk
   ·have holds:∀ j u,xs[j]? = some u→w.cell? ((⟨g,0,none⟩:Addr).add j)=some u:=fun j u hu=>by
     rw [Addr.add_lit,Nat.zero_add]
     refine hb.cell j u ?_
     rw [←h4,List.getElem?_take] at hu
     split at hu
     ·exact hu
     ·cases hu
    have hr:=run_append_grow (P:=P) w t ty e i z ht hi hz ⟨g,0,none⟩ n cap xs (by omega) holds ⟨yg,yo,none⟩ m yc ys (by omega) hnews (by omega) (by omega) (growslice_fits (by omega) (by omega))
    refine ⟨_,_,hr,grown cap (by omega),?_,fun k hk=>.inr ?_⟩
    ·exact (Upd.drew (Upd.refl _ w)).alloc _
    ·simp [Value.ownBlock] at hk;omega
theorem wpList_append_sl {w:World} {ops:Array Oper} {rest:List Oper} {o:Oper} {a:Act} {Q:Exit→Act→World→Prop} (hgd:o.guard=none) (s x:Operand) (t:TypeId)
  (ho:o.op=.call { callee:=.builtin .append,args:=#[s,x],argTypes:=#[t,t] })
  (e:TypeId) (i:TypeInfo) (z:Value) (size bytes:Nat) (ht:P.underlying t=some (.slice e)) (hi:P.info? e=some i) (hz:i.zero=some z) (hsz:i.size=size) (hby:i.bytes=bytes) (hzs:z.cells.size=size) (hs0:0<size)
  {v y:Value} {n m:Nat} {xs ys:List Value} {R:HP} (hs:a.eval s=v) (hx:a.eval x=y) (hv:Holds w (rw_ e size v n xs*R)) (hy:RowAt w y m ys) (hyl:ys.length=m*size) (hy1:Ones ys) (hlen:(n+m)*bytes≤140737488355328) (hnm:n+m≤140737488355328)
  (h:∀ v' w',Holds w' (rw_ e size v' (n+m) (xs++ys)*R)→Quiet w w'→wpList P ops Q rest (a.put o.dst v') w'):wpList P ops Q (o::rest) a w:=
 wpList_plain hgd fun _ hK=>by
  obtain ⟨F,⟨hown,rfl⟩,hn⟩:=hv.open
  obtain ⟨v',w',hr,h2,h3,h4⟩:=run_append_row (P:=P) t o.type e i z size bytes ht hi hz hsz hby hzs hs0 hown hy hyl hy1 hlen hnm
  unfold Oper.wp execOp
  simp only [ho,resolve,invoke,builtin,Sem.run_bind,Sem.run_pure,Result.andThen_ok,List.map_toArray,List.map_cons,List.map_nil,hs,hx,hr]
  exact hK _ _ (h v' w' (hn w' _ _ ⟨h2,rfl⟩ h3 h4) (Quiet.upd h3))
end
end Go.Proofs.YtfihmpkkpgmdhaaGreatDoor
end
