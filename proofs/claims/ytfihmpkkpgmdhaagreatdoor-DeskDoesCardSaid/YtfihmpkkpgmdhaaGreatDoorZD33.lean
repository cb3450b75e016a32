/-
  What the proof of DeskDoes leans on: definitions, laws, contracts of functions. No condition besides those that each theorem names.
-/
import Derived.Test.YtfihmpkkpgmdhaaGreatDoorZD32
import Derived.Test.YtfihmpkkpgmdhaaGreatDoorZD29
import Derived.Test.YtfihmpkkpgmdhaaGreatDoorZD21
set_option maxRecDepth 100000
set_option maxHeartbeats 16000000
set_option linter.unusedVariables false
set_option linter.unusedSimpArgs false
set_option linter.unnecessarySimpa false
namespace Go.Proofs.YtfihmpkkpgmdhaaGreatDoor
open Go.RowKit
open Go.Lib renaming hid → zH
open Go.Value renaming int → zI
open Go.IntKind renaming i64 → zi
theorem rnew_sl (w:World) {R:HP} (h:Holds w R):Calls Tryz.prog 8 #[] w fun e w'=>∃ b bc:Nat,e=.returned (.pointer (some ⟨b,0,none⟩))∧Quiet w w'∧Holds w' (rst b bc []*(chp bc Gld.zero*R)):=by
 obtain ⟨q,hq⟩:∃ q,w.heap.size=q:=⟨_,rfl⟩
 have h1:=h.boxB (ty:=53) (cs:=[zI zi 0,.slice none 0 0,.pointer none,.pointer none,.pointer none,zI zi 0]) hq
 have h2:=h1.boxB (ty:=55) (cs:=[.string (strOf []),.pointer (some ⟨q,0,none⟩)]) (g:=q+1) (by simp [hq])
 have H2:=zH h2;clear h h1 h2
 go_enter Tryz.func8,Tryz.ntmps8
 go_wp2_with (refine wpList_built rfl 53 _ rfl [zI zi 0,.slice none 0 0,.pointer none,.pointer none,.pointer none,zI zi 0] (by kernel_rfl) ?_)
 go_ret
 refine ⟨_,q,rfl,((Quiet.refl w).alloc _).alloc _,?_⟩
 have:=chp_new (H2.out.two)
 exact (this.eq (by rfl)).two
theorem inum_blk {w:World} {gn k c:Nat} {n:List Int} {A:HP} (h:Holds w (inum (.slice (some ⟨gn,0,none⟩) k c) n*A)):∃ cur,BlockAt w gn 3 cur:=by
 obtain ⟨_,_,⟨e,_⟩|⟨g,cap,cur,e,hb,_⟩⟩:=h.own
 ·cases e
 ·simp only [Value.slice.injEq,Option.some.injEq,Addr.mk.injEq,and_true] at e
  obtain ⟨rfl,_⟩:=e
  exact ⟨cur,hb⟩
theorem tst {x y:List UInt8} {n m:List Int} {v:Bool} (t:List UInt8) (k:Int) (hx:Hid (x=y)) (hn:Hid (n=m)) (h:(decide (y=t)&&decide ((m.length:Int)=k))=v):(decide (x=t)&&decide ((n.length:Int)=k))=v:=by
 obtain rfl:=hx.out
 obtain rfl:=hn.out
 exact h
theorem plt_open {b:Nat} {ty:TypeId} {rest:List Value} {d:Dsk} {w:World} {R:HP} (h:Holds w (plt b ty rest d*R)):∃ v,Holds w (bl b ty (zI zi d.ep::v::rest)*(ownb v d.b*R)):=by
 obtain ⟨F,F1,F2,hd,hF,⟨ht,v,hb,hv,rfl⟩,hR⟩:=h
 refine ⟨v,F,(fun k=>k=b),(fun k=>v.ownBlock=some k∨F2 k),?_,?_,⟨hb,rfl⟩,(fun k=>v.ownBlock=some k),F2,?_,fun k=>Iff.rfl,⟨hv,rfl⟩,hR⟩
 ·rintro k rfl (h1|h1)
  ·exact hv.ne hb ht _ h1 rfl
  ·exact hd _ (.inl rfl) h1
 ·intro k
  rw [hF]
  exact or_assoc
 ·intro k h1 h2
  exact hd k (.inr h1) h2
theorem plt_close {b:Nat} {ty:TypeId} {rest:List Value} {d:Dsk} {w:World} {v:Value} {R:HP} (ht:ty≠5) (h:Holds w (bl b ty (zI zi d.ep::v::rest)*(ownb v d.b*R))):Holds w (plt b ty rest d*R):=by
 obtain ⟨F,F1,F3,hd,hF,⟨hb,rfl⟩,F2,G,hd2,hF2,⟨hv,rfl⟩,hR⟩:=h
 refine ⟨F,(fun k=>k=b∨v.ownBlock=some k),G,?_,?_,⟨ht,v,hb,hv,rfl⟩,hR⟩
 ·rintro k (rfl|h1) h2
  ·exact hd _ rfl ((hF2 _).2 (.inr h2))
  ·exact hd2 k h1 h2
 ·intro k
  rw [hF,hF2]
  exact or_assoc.symm
theorem chp_openF {b:Nat} {g:Gld} {R:HP} {w:World} (h:Holds w (chp b g*R)):∃ (vs:Nat→Value) (v:Value),Holds w (bl b 53 [zI zi g.d.ep,v,vs 0,vs 1,vs 2,zI zi g.now]*(ownb v g.d.b*(vergs3 b vs g.f*R))):=by
 obtain ⟨vs,h1⟩:=chp_open h
 obtain ⟨v,h2⟩:=plt_open h1
 exact ⟨vs,v,h2⟩
theorem chp_closeF {b:Nat} {g:Gld} {R:HP} {w:World} {vs:Nat→Value} {v:Value} (h:Holds w (bl b 53 [zI zi g.d.ep,v,vs 0,vs 1,vs 2,zI zi g.now]*(ownb v g.d.b*(vergs3 b vs g.f*R)))):Holds w (chp b g*R):=
 chp_close (plt_close (by decide) h)
theorem hvs_flat2 (l:List (Int×Int)):hvs l=ivs (flat2 l):=by
 induction l with
 | nil=>rfl
 | cons p l ih=>unfold flat2 hvs at *;simp only [List.flatMap_cons,ivs,List.map_append,List.map_cons,List.map_nil] at ih ⊢;rw [ih]
theorem bl_rowI {W:World} {g:Nat} {l:List Int} {A:HP} {n:Nat} (h:Holds W (bl g 3 (ivs l)*A)) (hn:l.length=n) (hs:n≤1000):RowAt W (.slice (some ⟨g,0,none⟩) n n) l.length (ivs l):=by
 subst hn
 exact ⟨_,_,rfl,Nat.le_refl _,by simp only [maxLen];omega,by simp,fun _=>⟨_,_,rfl,fun j u hj=>by rw [Nat.zero_add];exact h.bl.cell j u hj⟩⟩
end Go.Proofs.YtfihmpkkpgmdhaaGreatDoor
