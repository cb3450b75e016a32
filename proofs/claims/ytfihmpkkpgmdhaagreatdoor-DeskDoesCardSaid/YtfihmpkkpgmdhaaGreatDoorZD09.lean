/-
  What the proof of DeskDoes leans on: definitions, laws, contracts of functions. No condition besides those that each theorem names.
-/
import Derived.Test.YtfihmpkkpgmdhaaGreatDoorZD05
set_option maxRecDepth 100000
set_option maxHeartbeats 16000000
set_option linter.unusedVariables false
set_option linter.unusedSimpArgs false
set_option linter.unnecessarySimpa false
namespace Go.Proofs.YtfihmpkkpgmdhaaGreatDoor
open Go.RowKit
open Go.Lib renaming hid → zH
open Go.Value renaming int → zI
open Go.IntKind renaming i64 → zi
theorem take_any (b:Nat) (tb:Tbl) (c n j t k m:Int) (w:World) (h:TableAt w b tb) (hok:tb.Ok) (hm0:1≤m) (hm1:m≤20) :
  Calls Tryz.prog 126 #[.pointer (some ⟨b,0,none⟩),.agg #[zI zi c,zI zi n,zI zi j,zI zi t,zI zi k,zI zi m]] w (AnsPost w b (ctake tb k m)):=by
 have hlt:=h.lt
 have hn0:=hok.now.1
 have hn1:=hok.now.2
 have H:=zH h;clear h
 have HO:=zH hok;clear hok
 go_enter Tryz.func126,Tryz.ntmps126
 go_wp2
 go_loopw [7,5,6] (fun i _ _ wr=>∃ (q:Nat),q≤6∧i=zI zi q∧wr=(w.alloc (.cells #[zI zi c,zI zi n,zI zi j,zI zi t,zI zi k,zI zi m] 84)).alloc (.cells #[zI zi 0,zI zi 0,zI zi 0] 88)∧Hid (∀ i,i<q→(tb.jobs i).st≠1)) (fun i _ _ _=>6-(intOf i).toNat)
 case atStart=>exact ⟨0,by omega,rfl,rfl,by simp [Hid]⟩
 case round=>
  obtain ⟨q,hq,rfl,rfl,hno⟩:=hrel
  by_cases hlt:q<6
  ·obtain ⟨c0,c1,c2,c3⟩:=H.out.job hlt
   have c24:=H.out.cell 24 _ rfl
   have f0:=H.out.free (q*4)
   have f1:=H.out.free (q*4+1)
   have f2:=H.out.free (q*4+2)
   have f3:=H.out.free (q*4+3)
   have ht0:=(HO.out.jobs q).tr.1
   have ht1:=(HO.out.jobs q).tr.2
   by_cases hs:(tb.jobs q).st=1
   ·have hs1:((tb.jobs q).st==1)=true:=by simpa using hs
    have HS:=zH hs;clear hs
    go_wp2
    go_region
    go_wp2
    have e:ctake tb k m=(tb.set q ⟨2,k,(tb.jobs q).tr+1,tb.now+m⟩,⟨0,q,(tb.jobs q).tr+1⟩):=by
     rw [ctake,firstW_some 6 0 q (fun j _ hj=>hno.out j hj) (by omega) (by omega) HS.out]
    rw [e]
    refine bodyPost_ret (v:=.agg #[zI zi 0,zI zi q,zI zi ((tb.jobs q).tr+1)]) (by simp [results,Tryz.results126,go_sem]) rfl ⟨rfl,?_,?_⟩
    ·repeat (first|with_reducible exact grown_refl _ _|with_reducible refine grown_drew ?_|with_reducible refine grown_alloc ?_ _|with_reducible refine grown_setCell ?_ _ _)
    ·exact ((TableAt.setJob H.out hlt ⟨2,k,(tb.jobs q).tr+1,tb.now+m⟩).alloc _).alloc _
   ·have hs1:((tb.jobs q).st==1)=false:=by simpa using hs
    have HS:=zH hs;clear hs
    go_wp2
    go_roundw
    case rel=>exact ⟨q+1,by omega,by go_num,(by first|trivial|rfl),fun i hi=>by
     by_cases e:i=q
     ·subst e;exact HS.out
     ·exact hno.out i (by omega)⟩
    case measure=>simp [intOf];omega
  ·obtain rfl:q=6:=by omega
   go_wp2
   have e:ctake tb k m=(tb,⟨5,0,0⟩):=by
    rw [ctake,firstW_none 6 0 (fun j _ hj=>hno.out j (by omega))]
   rw [e]
   refine bodyPost_ret (v:=.agg #[zI zi 5,zI zi 0,zI zi 0]) (by simp [results,Tryz.results126,go_sem]) rfl ⟨rfl,?_,?_⟩
   ·repeat (first|with_reducible exact grown_refl _ _|with_reducible refine grown_drew ?_|with_reducible refine grown_alloc ?_ _|with_reducible refine grown_setCell ?_ _ _)
   ·exact (BlockAt.alloc H.out _).alloc _
def actArgs (b:Nat) (c n j t k m:Int):Array Value:=#[.pointer (some ⟨b,0,none⟩),.agg #[zI zi c,zI zi n,zI zi j,zI zi t,zI zi k,zI zi m]]
theorem act_2 (b:Nat) (tb:Tbl) (n j t k m:Int) (w:World) (h:TableAt w b tb) (hok:tb.Ok) (hj0:0≤j) (hj1:j≤5) (hm0:1≤m) (hm1:m≤20) :
  Calls Tryz.prog 109 (actArgs b 2 n j t k m) w (AnsPost w b (tb.act ⟨2,n,j,t,k,m⟩)):=by
 unfold actArgs
 rw [act_take]
 generalize hX:ctake tb k m=X
 have HC:=zH hX;clear hX
 have hlt:=h.lt
 have H:=zH h;clear h
 have HO:=zH hok;clear hok
 obtain ⟨q,rfl⟩:=Int.eq_ofNat_of_zero_le hj0
 go_enter Tryz.func109,Tryz.ntmps109
 go_wp2
 go_quiet (fail)
 go_wp2_with fail
 refine (take_any b tb _ _ _ _ _ _ _ (BlockAt.drewN ((BlockAt.alloc H.out _).alloc _) _) HO.out hm0 hm1).mono ?_
 rw [HC.out]
 rintro e w' ⟨rfl,hg,ht⟩
 have hx:=(BlockAt.drewN (BlockAt.new (w.alloc (.cells #[zI zi 2,zI zi n,zI zi q,zI zi t,zI zi k,zI zi m] 84)) 88 [zI zi 0,zI zi 0,zI zi 0]) nq).other hg (by simp;omega)
 simp only [World.size_alloc] at hx
 have k1:=hx.cells
 have k2:=hx.frees
 have HX:=zH hx;clear hx
 have HT:=zH ht;clear ht
 go_wp2
 refine bodyPost_ret (v:=.agg #[zI zi X.2.code,zI zi X.2.job,zI zi X.2.tr]) (by simp [results,Tryz.results109,go_sem,k1]) rfl ⟨rfl,?_,?_⟩
 ·have h1:=grown_then (grown_drewN (grown_alloc (grown_alloc (grown_refl w (some b)) _) _) _) hg (.inl rfl)
  repeat (first|with_reducible exact h1|refine grown_setNew ?_ (by simp) _)
 ·unfold TableAt
  refine BlockAt.setOther (BlockAt.setOther (BlockAt.setOther ?_ (by simp;omega) _) (by simp;omega) _) (by simp;omega) _
  exact HT.out
theorem act_1 (b:Nat) (tb:Tbl) (n j t k m:Int) (w:World) (h:TableAt w b tb) (hok:tb.Ok) (hj0:0≤j) (hj1:j≤5) :
  Calls Tryz.prog 109 (actArgs b 1 n j t k m) w (AnsPost w b (tb.act ⟨1,n,j,t,k,m⟩)):=by
 unfold actArgs
 obtain ⟨q,rfl⟩:=Int.eq_ofNat_of_zero_le hj0
 have hq:q<6:=by omega
 obtain ⟨c0,c1,c2,c3⟩:=h.job hq
 have f0:=h.free (q*4)
 have hlt:=h.lt
 have H:=zH h;clear h
 have HO:=zH hok;clear hok
 by_cases hs:(tb.jobs q).st=0
 ·have hs1:((tb.jobs q).st != 0)=false:=by simpa using hs
  have hs2:((tb.jobs q).st==0)=true:=by simpa using hs
  have e:tb.act ⟨1,n,q,t,k,m⟩=(tb.set q ⟨1,0,0,0⟩,⟨0,0,0⟩):=by simp [Tbl.act,hs]
  rw [e];clear e
  have HS:=zH hs;clear hs
  go_enter Tryz.func109,Tryz.ntmps109
  go_wp2
  go_quiet (fail)
  go_wp2
  refine bodyPost_ret (v:=.agg #[zI zi 0,zI zi 0,zI zi 0]) (by simp [results,Tryz.results109,go_sem]) rfl ⟨rfl,?_,?_⟩
  ·repeat (first|with_reducible exact grown_refl _ _|with_reducible refine grown_drewN ?_ _|with_reducible refine grown_drew ?_|with_reducible refine grown_alloc ?_ _|with_reducible refine grown_setCell ?_ _ _|refine grown_setNew ?_ (by simp) _)
  ·unfold TableAt
   refine BlockAt.setOther (BlockAt.setOther (BlockAt.setOther ?_ (by simp;omega) _) (by simp;omega) _) (by simp;omega) _
   exact TableAt.setSt (BlockAt.drewN ((BlockAt.alloc H.out _).alloc _) _) hq ((HO.out.jobs q).ab HS.out)
 ·have hs1:((tb.jobs q).st != 0)=true:=by simpa using hs
  have hs2:((tb.jobs q).st==0)=false:=by simpa using hs
  have e:tb.act ⟨1,n,q,t,k,m⟩=(tb,⟨4,0,0⟩):=by simp [Tbl.act,hs]
  rw [e];clear e
  have HS:=zH hs;clear hs
  go_enter Tryz.func109,Tryz.ntmps109
  go_wp2
  go_quiet (fail)
  go_wp2
  refine bodyPost_ret (v:=.agg #[zI zi 4,zI zi 0,zI zi 0]) (by simp [results,Tryz.results109,go_sem]) rfl ⟨rfl,?_,?_⟩
  ·repeat (first|with_reducible exact grown_refl _ _|with_reducible refine grown_drewN ?_ _|with_reducible refine grown_drew ?_|with_reducible refine grown_alloc ?_ _|with_reducible refine grown_setCell ?_ _ _|refine grown_setNew ?_ (by simp) _)
  ·unfold TableAt
   refine BlockAt.setOther (BlockAt.setOther (BlockAt.setOther ?_ (by simp;omega) _) (by simp;omega) _) (by simp;omega) _
   exact BlockAt.drewN ((BlockAt.alloc H.out _).alloc _) _
theorem act_5 (b:Nat) (tb:Tbl) (c n j t k m:Int) (w:World) (h:TableAt w b tb) (hc:c=3∨c=4∨c=5) (hj0:0≤j) (hj1:j≤5) (hs:(tb.jobs j.toNat).st=0) :
  Calls Tryz.prog 109 (actArgs b c n j t k m) w (AnsPost w b (tb.act ⟨c,n,j,t,k,m⟩)):=by
 unfold actArgs
 rw [act_absent tb c n j t k m hc hs]
 obtain ⟨q,rfl⟩:=Int.eq_ofNat_of_zero_le hj0
 have hq:q<6:=by omega
 simp only [Int.toNat_natCast] at hs
 obtain ⟨c0,c1,c2,c3⟩:=h.job hq
 have hlt:=h.lt
 have H:=zH h;clear h
 have hs2:((tb.jobs q).st==0)=true:=by simpa using hs
 clear hs
 rcases hc with rfl|rfl|rfl
 all_goals
  go_enter Tryz.func109,Tryz.ntmps109
  go_wp2
  go_quiet (fail)
  go_wp2
  refine bodyPost_ret (v:=.agg #[zI zi 5,zI zi 0,zI zi 0]) (by simp [results,Tryz.results109,go_sem]) rfl ⟨rfl,?_,?_⟩
  ·repeat (first|with_reducible exact grown_refl _ _|with_reducible refine grown_drewN ?_ _|with_reducible refine grown_drew ?_|with_reducible refine grown_alloc ?_ _|with_reducible refine grown_setCell ?_ _ _|refine grown_setNew ?_ (by simp) _)
  ·unfold TableAt
   refine BlockAt.setOther (BlockAt.setOther (BlockAt.setOther ?_ (by simp;omega) _) (by simp;omega) _) (by simp;omega) _
   exact BlockAt.drewN ((BlockAt.alloc H.out _).alloc _) _
theorem act_6 (b:Nat) (tb:Tbl) (c n j t k m:Int) (w:World) (h:TableAt w b tb) (hc:c=3∨c=4∨c=5) (hj0:0≤j) (hj1:j≤5) (h0:(tb.jobs j.toNat).st≠0)
  (hs:(tb.jobs j.toNat).st≠2∨(tb.jobs j.toNat).wk≠k∨(tb.jobs j.toNat).tr≠t) :
  Calls Tryz.prog 109 (actArgs b c n j t k m) w (AnsPost w b (tb.act ⟨c,n,j,t,k,m⟩)):=by
 unfold actArgs
 rw [act_else tb c n j t k m hc h0 hs]
 obtain ⟨q,rfl⟩:=Int.eq_ofNat_of_zero_le hj0
 have hq:q<6:=by omega
 simp only [Int.toNat_natCast] at hs h0
 obtain ⟨c0,c1,c2,c3⟩:=h.job hq
 have hlt:=h.lt
 have H:=zH h;clear h
 have hs2:((tb.jobs q).st==0)=false:=by simpa using h0
 clear h0
 by_cases e1:(tb.jobs q).st=2
 ·have e1b:((tb.jobs q).st != 2)=false:=by simpa using e1
  by_cases e2:(tb.jobs q).wk=k
  ·have e2b:((tb.jobs q).wk != k)=false:=by simpa using e2
   have e3:(tb.jobs q).tr≠t:=by rcases hs with h|h|h<;>first|exact absurd e1 h|exact absurd e2 h|exact h
   have e3b:((tb.jobs q).tr != t)=true:=by simpa using e3
   clear e1 e2 e3 hs
   rcases hc with rfl|rfl|rfl
   all_goals
    go_enter Tryz.func109,Tryz.ntmps109
    go_wp2
    go_quiet (fail)
    go_wp2
    go_quiet (fail)
    go_wp2
    refine bodyPost_ret (v:=.agg #[zI zi 6,zI zi 0,zI zi 0]) (by simp [results,Tryz.results109,go_sem]) rfl ⟨rfl,?_,?_⟩
    ·repeat (first|with_reducible exact grown_refl _ _|with_reducible refine grown_drewN ?_ _|with_reducible refine grown_drew ?_|with_reducible refine grown_alloc ?_ _|with_reducible refine grown_setCell ?_ _ _|refine grown_setNew ?_ (by simp) _)
    ·unfold TableAt
     refine BlockAt.setOther (BlockAt.setOther (BlockAt.setOther ?_ (by simp;omega) _) (by simp;omega) _) (by simp;omega) _
     exact BlockAt.drewN ((BlockAt.alloc H.out _).alloc _) _
  ·have e2b:((tb.jobs q).wk != k)=true:=by simpa using e2
   clear e1 e2 hs
   rcases hc with rfl|rfl|rfl
   all_goals
    go_enter Tryz.func109,Tryz.ntmps109
    go_wp2
    go_quiet (fail)
    go_wp2
    go_quiet (fail)
    go_wp2
    refine bodyPost_ret (v:=.agg #[zI zi 6,zI zi 0,zI zi 0]) (by simp [results,Tryz.results109,go_sem]) rfl ⟨rfl,?_,?_⟩
    ·repeat (first|with_reducible exact grown_refl _ _|with_reducible refine grown_drewN ?_ _|with_reducible refine grown_drew ?_|with_reducible refine grown_alloc ?_ _|with_reducible refine grown_setCell ?_ _ _|refine grown_setNew ?_ (by simp) _)
    ·unfold TableAt
     refine BlockAt.setOther (BlockAt.setOther (BlockAt.setOther ?_ (by simp;omega) _) (by simp;omega) _) (by simp;omega) _
     exact BlockAt.drewN ((BlockAt.alloc H.out _).alloc _) _
 ·have e1b:((tb.jobs q).st != 2)=true:=by simpa using e1
  clear e1 hs
  rcases hc with rfl|rfl|rfl
  all_goals
   go_enter Tryz.func109,Tryz.ntmps109
   go_wp2
   go_quiet (fail)
   go_wp2
   go_quiet (fail)
   go_wp2
   refine bodyPost_ret (v:=.agg #[zI zi 6,zI zi 0,zI zi 0]) (by simp [results,Tryz.results109,go_sem]) rfl ⟨rfl,?_,?_⟩
   ·repeat (first|with_reducible exact grown_refl _ _|with_reducible refine grown_drewN ?_ _|with_reducible refine grown_drew ?_|with_reducible refine grown_alloc ?_ _|with_reducible refine grown_setCell ?_ _ _|refine grown_setNew ?_ (by simp) _)
   ·unfold TableAt
    refine BlockAt.setOther (BlockAt.setOther (BlockAt.setOther ?_ (by simp;omega) _) (by simp;omega) _) (by simp;omega) _
    exact BlockAt.drewN ((BlockAt.alloc H.out _).alloc _) _
theorem act_345 (b:Nat) (tb:Tbl) (c n j t k m:Int) (w:World) (h:TableAt w b tb) (hok:tb.Ok) (hc:c=3∨c=4∨c=5) (hj0:0≤j) (hj1:j≤5) (hm0:0≤m) (hm1:m≤20)
  (h0:(tb.jobs j.toNat).st=2) (h1:(tb.jobs j.toNat).wk=k) (h2:(tb.jobs j.toNat).tr=t) :
  Calls Tryz.prog 109 (actArgs b c n j t k m) w (AnsPost w b (tb.act ⟨c,n,j,t,k,m⟩)):=by
 unfold actArgs
 rw [act_held tb c n j t k m h0 h1 h2 hc]
 obtain ⟨q,rfl⟩:=Int.eq_ofNat_of_zero_le hj0
 have hq:q<6:=by omega
 simp only [Int.toNat_natCast] at h0 h1 h2 ⊢
 obtain ⟨c0,c1,c2,c3⟩:=h.job hq
 have c24:=h.cell 24 _ rfl
 have f0:=h.free (q*4)
 have f1:=h.free (q*4+1)
 have f2:=h.free (q*4+2)
 have f3:=h.free (q*4+3)
 have hn0:=hok.now.1
 have hn1:=hok.now.2
 have hlt:=h.lt
 have H:=zH h;clear h hok
 have e0:((tb.jobs q).st==0)=false:=by rw [h0];rfl
 have e1:((tb.jobs q).st != 2)=false:=by rw [h0];rfl
 have e2:((tb.jobs q).wk != k)=false:=by simpa using h1
 have e3:((tb.jobs q).tr != t)=false:=by simpa using h2
 clear h0 h1 h2
 rcases hc with rfl|rfl|rfl
 ·go_enter Tryz.func109,Tryz.ntmps109
  go_wp2
  go_quiet (fail)
  go_wp2
  go_quiet (fail)
  go_wp2
  go_region
  go_wp2
  refine bodyPost_ret (v:=.agg #[zI zi 0,zI zi 0,zI zi 0]) (by simp [results,Tryz.results109,go_sem]) rfl ⟨rfl,?_,?_⟩
  ·repeat (first|with_reducible exact grown_refl _ _|with_reducible refine grown_drewN ?_ _|with_reducible refine grown_drew ?_|with_reducible refine grown_alloc ?_ _|with_reducible refine grown_setCell ?_ _ _|refine grown_setNew ?_ (by simp) _)
  ·unfold TableAt
   refine BlockAt.setOther (BlockAt.setOther (BlockAt.setOther ?_ (by simp;omega) _) (by simp;omega) _) (by simp;omega) _
   exact TableAt.setUn (BlockAt.drewN ((BlockAt.alloc H.out _).alloc _) _) hq _
 ·go_enter Tryz.func109,Tryz.ntmps109
  go_wp2
  go_quiet (fail)
  go_wp2
  go_quiet (fail)
  go_wp2
  go_region
  go_wp2
  refine bodyPost_ret (v:=.agg #[zI zi 0,zI zi 0,zI zi 0]) (by simp [results,Tryz.results109,go_sem]) rfl ⟨rfl,?_,?_⟩
  ·repeat (first|with_reducible exact grown_refl _ _|with_reducible refine grown_drewN ?_ _|with_reducible refine grown_drew ?_|with_reducible refine grown_alloc ?_ _|with_reducible refine grown_setCell ?_ _ _|refine grown_setNew ?_ (by simp) _)
  ·unfold TableAt
   refine BlockAt.setOther (BlockAt.setOther (BlockAt.setOther ?_ (by simp;omega) _) (by simp;omega) _) (by simp;omega) _
   exact TableAt.setJob (BlockAt.drewN ((BlockAt.alloc H.out _).alloc _) _) hq ⟨3,(tb.jobs q).wk,(tb.jobs q).tr,0⟩
 ·go_enter Tryz.func109,Tryz.ntmps109
  go_wp2
  go_quiet (fail)
  go_wp2
  go_quiet (fail)
  go_wp2_with fail
  refine (pass_any b (tb.set q { tb.jobs q with un:=tb.now }) _ _ (TableAt.setUn (BlockAt.drewN ((BlockAt.alloc H.out _).alloc _) _) hq _)).mono ?_
  rintro e w' ⟨rfl,hg,ht⟩
  have hx:=((BlockAt.drewN (BlockAt.new (w.alloc (.cells #[zI zi 5,zI zi n,zI zi q,zI zi t,zI zi k,zI zi m] 84)) 88 [zI zi 0,zI zi 0,zI zi 0]) _).setOther (by simp;omega) _).other hg (by simp;omega)
  simp only [World.size_alloc] at hx
  have k1:=hx.cells
  have k2:=hx.frees
  have HX:=zH hx;clear hx
  have HT:=zH ht;clear ht
  go_wp2
  refine bodyPost_ret (v:=.agg #[zI zi 0,zI zi 0,zI zi 0]) (by simp [results,Tryz.results109,go_sem,k1]) rfl ⟨rfl,?_,?_⟩
  ·have h1:=grown_then (grown_setCell (grown_drewN (grown_alloc (grown_alloc (grown_refl w (some b)) _) _) _) _ _) hg (.inl rfl)
   repeat (first|with_reducible exact h1|refine grown_setNew ?_ (by simp) _)
  ·unfold TableAt
   refine BlockAt.setOther (BlockAt.setOther (BlockAt.setOther ?_ (by simp;omega) _) (by simp;omega) _) (by simp;omega) _
   exact HT.out
theorem act_any (b:Nat) (tb:Tbl) (o:Ord) (w:World) (h:TableAt w b tb) (hok:tb.Ok) (ho:chk o=0) :
  Calls Tryz.prog 109 #[.pointer (some ⟨b,0,none⟩),.agg #[zI zi o.kind,zI zi o.now,zI zi o.job,zI zi o.tr,zI zi o.wk,zI zi o.tm]] w (AnsPost w b (tb.act o)):=by
 obtain ⟨c,n,j,t,k,m⟩:=o
 obtain ⟨hj,hc,hm2,hm⟩:=chk_zero ho
 dsimp only at *
 rcases hc with rfl|rfl|hc
 ·exact act_1 b tb n j t k m w h hok hj.1 hj.2
 ·exact act_2 b tb n j t k m w h hok hj.1 hj.2 (hm2 (.inl rfl)) hm.2
 ·by_cases h0:(tb.jobs j.toNat).st=0
  ·exact act_5 b tb c n j t k m w h hc hj.1 hj.2 h0
  ·by_cases h1:(tb.jobs j.toNat).st=2∧(tb.jobs j.toNat).wk=k∧(tb.jobs j.toNat).tr=t
   ·exact act_345 b tb c n j t k m w h hok hc hj.1 hj.2 hm.1 hm.2 h1.1 h1.2.1 h1.2.2
   ·refine act_6 b tb c n j t k m w h hc hj.1 hj.2 h0 ?_
    by_cases a:(tb.jobs j.toNat).st=2
    ·by_cases b':(tb.jobs j.toNat).wk=k
     ·exact .inr (.inr fun e=>h1 ⟨a,b',e⟩)
     ·exact .inr (.inl b')
    ·exact .inl a
end Go.Proofs.YtfihmpkkpgmdhaaGreatDoor
