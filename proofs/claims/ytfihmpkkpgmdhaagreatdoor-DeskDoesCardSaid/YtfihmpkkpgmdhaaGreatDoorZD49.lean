/-
  What the proof of DeskDoes leans on: definitions, laws, contracts of functions. No condition besides those that each theorem names.
-/
import Derived.Test.YtfihmpkkpgmdhaaGreatDoorZD47
import Derived.Test.YtfihmpkkpgmdhaaGreatDoorZD48
set_option maxRecDepth 100000
set_option maxHeartbeats 16000000
set_option linter.unusedVariables false
set_option linter.unusedSimpArgs false
set_option linter.unnecessarySimpa false
namespace Go.Proofs.YtfihmpkkpgmdhaaGreatDoor
open Go.RowKit
open Go.Lib renaming hid → zH
open Go.Value renaming int → zI
open Go.IntKind renaming i64 → zi
theorem rdo_sl (b bc:Nat) (told:List UInt8) (g:Gld) (v:Value) (l:List (List UInt8)) (w:World) {w0:World} {R:HP} (h:Holds w (rst b bc told*(chp bc g*(lay w0*R)))) (hg:g.Good) (hv:∀ W,Holds W (lay w0*R)→RowAt W v l.length (svls l)) (hn:l.length≤200) (hz:∀ s∈l,s.length≤9000) :
  Calls Tryz.prog 11 #[.pointer (some ⟨b,0,none⟩),v] w fun e w'=>e=.returned (.string (strOf (tells g l).2))∧Quiet w w'∧Holds w' (rst b bc (tells g l).2*(chp bc (tells g l).1*(lay w0*R))):=by
 obtain ⟨a,c,rfl,c1,c2⟩:=(hv w h.right.right).shape
 have c0:w.cell? ⟨b,0,none⟩=some (.string (strOf told)):=h.bl.cell 0 _ rfl
 have f0:=h.bl.free 0
 have HS:=zH (show Holds (w.setCell ⟨b,0,none⟩ (.string (strOf []))) (rst b bc []*(chp bc g*(lay w0*R))) from h.setB 0 (.string (strOf [])))
 have HG:=zH hg;have HV:=zH hv;have HZ:=zH hz
 clear h hg hv hz
 go_enter Tryz.func11,Tryz.ntmps11
 go_wp2_with fail
 go_loopw [5] (fun i wr=>∃ k:Nat,k≤l.length∧i=zI zi k∧Holds wr (rst b bc (tells g (l.take k)).2*(chp bc (tells g (l.take k)).1*(lay w0*R)))∧Quiet w wr) (fun i _=>l.length-(intOf i).toNat)
 case atStart=>exact ⟨0,by omega,rfl,HS.out.eq (by simp only [List.take_zero,tells]),(Quiet.refl w).setCell _ _⟩
 case round=>
  obtain ⟨k,hk,rfl,hh,hq⟩:=hrel
  have HH:=zH hh;have HQ:=zH hq
  have hrow:=HV.out _ hh.right.right
  have HR:=zH hrow
  clear hh hq hrow c0 f0
  obtain ⟨wo,rfl⟩:∃ wo:World,wo=wr:=⟨_,rfl⟩
  by_cases hlt:k<l.length
  ·obtain ⟨s,hs⟩:∃ s,l[k]? = some s:=⟨_,List.getElem?_eq_getElem hlt⟩
   obtain ⟨gl,ol,cl,e,-,-,hc⟩:=HR.out.get (by omega)
   simp only [Value.slice.injEq] at e
   obtain ⟨rfl,-,rfl⟩:=e
   have y0:=hc k _ (svls_get hs)
   have hzs:=HZ.out s (List.mem_of_getElem? hs)
   have hst:=tells_take g l k s hs
   have hgk:=tells_good (l.take k) HG.out
   have hlk:=tells_len (l.take k) HG.out
   rw [List.length_take] at hlk
   have HST:=zH hst;have HGK:=zH hgk
   clear hc hs hst hgk
   go_wp2_with (go_at_call 18;refine (rline_sl b bc _ _ s _ HH.out HGK.out hzs (by omega)).mono ?_;rintro e w3 ⟨rfl,q3,h3⟩;have H3:=zH h3;have Q3:=zH (HQ.out.trans q3);clear h3 q3)
   go_roundw
   case rel=>exact ⟨k+1,by omega,by go_num,by rw [HST.out];exact H3.out,Q3.out⟩
   case measure=>simp [intOf];omega
  ·obtain rfl:k=l.length:=by omega
   have HH2:=zH (show Holds wo (rst b bc (tells g l).2*(chp bc (tells g l).1*(lay w0*R))) by have:=HH.out;rwa [List.take_length] at this)
   have y0:wo.cell? ⟨b,0,none⟩=some (.string (strOf (tells g l).2)):=HH2.out.bl.cell 0 _ rfl
   go_wp2
   go_ret
   exact ⟨rfl,HQ.out,HH2.out⟩
def fo (l:List (List UInt8)):Int×Int:=if l.length≤150 then (match brk l with|none=>(0,0)|some i=>(13,(i:Int))) else (12,-1)
theorem kdo_f (b bg:Nat) (g:Gld) (v:Value) (l:List (List UInt8)) (w:World) {w0:World} {R:HP} (h:Holds w (kbl b bg*(gld bg g*(lay w0*R)))) (hg:g.Good) (hv:∀ W,Holds W (lay w0*R)→RowAt W v l.length (svls l)) (hz:∀ s∈l,s.length≤9000) :
  Calls Tryz.prog 9 #[.pointer (some ⟨b,0,none⟩),v] w fun e w'=>∃ (T:List UInt8) (g':Gld),e=.returned (.tuple #[.string (strOf T),.agg #[zI zi (fo l).1,zI zi (fo l).2]])∧Quiet w w'∧Holds w' (kbl b bg*(gld bg g'*(lay w0*R)))∧g'.Good ∧
   ((fo l).1=0∧T=(tells g l).2∧g'=(tells g l).1∨(fo l).1≠0∧T=[]∧g'=g):=by
 refine (kdo_sl b bg g v l w h hg hv hz).mono ?_
 rintro e w' ⟨T,c,a,g',rfl,q,k,kg,x,y,z⟩
 by_cases hn:l.length≤150
 ·cases hb:brk l with
  | none=>
   obtain ⟨rfl,rfl,rfl,rfl⟩:=x hn hb
   have hf:fo l=(0,0):=by unfold fo;rw [if_pos hn,hb]
   rw [hf]
   exact ⟨_,_,rfl,q,k,kg,.inl ⟨rfl,rfl,rfl⟩⟩
  | some i=>
   obtain ⟨rfl,rfl,rfl,rfl⟩:=y i hn hb
   have hf:fo l=(13,(i:Int)):=by unfold fo;rw [if_pos hn,hb]
   rw [hf]
   exact ⟨_,_,rfl,q,k,kg,.inr ⟨by show (13:Int)≠0;decide,rfl,rfl⟩⟩
 ·obtain ⟨rfl,rfl,rfl,rfl⟩:=z (by omega)
  have hf:fo l=(12,-1):=by unfold fo;rw [if_neg hn]
  rw [hf]
  exact ⟨_,_,rfl,q,k,kg,.inr ⟨by decide,rfl,rfl⟩⟩
theorem lfault_f (v:Value) (l:List (List UInt8)) (w:World) {R:HP} (h:Holds w R) (hv:RowAt w v l.length (svls l)) (hz:∀ s∈l,s.length≤9000) :
  Calls Tryz.prog 10 #[v] w fun e w'=>e=.returned (.agg #[zI zi (fo l).1,zI zi (fo l).2])∧Quiet w w'∧Holds w' R:=by
 by_cases hn:l.length≤150
 ·refine (lfault_few v l w h hv hn hz).mono ?_
  rintro e w' ⟨c,a,rfl,q,k,x,y⟩
  cases hb:brk l with
  | none=>
   obtain ⟨rfl,rfl⟩:=x hb
   have hf:fo l=(0,0):=by unfold fo;rw [if_pos hn,hb]
   rw [hf]
   exact ⟨rfl,q,k⟩
  | some i=>
   obtain ⟨rfl,rfl⟩:=y i hb
   have hf:fo l=(13,(i:Int)):=by unfold fo;rw [if_pos hn,hb]
   rw [hf]
   exact ⟨rfl,q,k⟩
 ·obtain ⟨a,c,e0,h1,h2⟩:=hv.shape
  refine (lfault_many v l.length w h ⟨a,c,e0,h1,h2⟩ (by omega)).mono ?_
  rintro e w' ⟨rfl,q,k⟩
  have hf:fo l=(12,-1):=by unfold fo;rw [if_neg hn]
  rw [hf]
  exact ⟨rfl,q,k⟩
theorem fault_eq (c a:Int):∀ W:World,(Op.equalIn 10000 31 (.agg #[zI zi c,zI zi a]) (.agg #[zI zi c,zI zi a])).run Tryz.prog W=.ok true W:=fun W=>by go_simp
theorem deskDoes_any (v0 v1:Value) (L0 L1:List (List UInt8)) (w:World) (hl:Laid w) (h0:RowAt w v0 L0.length (svls L0)) (h1:RowAt w v1 L1.length (svls L1)) (hz0:∀ s∈L0,s.length≤140737488351232) (hz1:∀ s∈L1,s.length≤140737488351232) :
  Calls Tryz.prog 3 #[v0,v1] w fun e w'=>e=.returned (.bool true)∧Below w.heap.size w w':=by
 obtain ⟨a0,n0,rfl,d1,d2⟩:=h0.shape
 obtain ⟨a1,n1,rfl,d3,d4⟩:=h1.shape
 have HL:=zH hl;have HR0:=zH h0;have HR1:=zH h1;have HZ0:=zH hz0;have HZ1:=zH hz1
 clear hl h0 h1 hz0 hz1
 go_enter Tryz.func3,Tryz.ntmps3
 go_wp2_with fail
 refine (deskBegun_any _ HL.out).mono ?_
 rintro e w1 ⟨rfl,hb1⟩
 have H1:=zH ((lay_start HL.out).below hb1)
 have Q1:=zH (Quiet.below hb1);clear hb1
 by_cases k0:200<L0.length
 ·have k0':(200:Int)<(L0.length:Int):=by omega
  go_wp2
  go_ret
  exact ⟨rfl,(lay_of H1.out).left.toBelow' Q1.out⟩
 have k0':¬ (200:Int)<(L0.length:Int):=by omega
 by_cases k1:200<L1.length
 ·have k1':(200:Int)<(L1.length:Int):=by omega
  go_wp2
  go_ret
  exact ⟨rfl,(lay_of H1.out).left.toBelow' Q1.out⟩
 have k1':¬ (200:Int)<(L1.length:Int):=by omega
 go_wp2_with fail
 refine (slow_sl _ L0 _ (lay_row HR0.out H1.out) (by omega) HZ0.out).mono ?_
 rintro e w2 ⟨c,rfl,rfl,hc⟩
 cases c with
 | true=>
  go_wp2
  go_ret
  exact ⟨rfl,(lay_of H1.out).left.toBelow' Q1.out⟩
 | false=>
 have HC0:=zH (hc rfl);clear hc
 go_wp2_with fail
 refine (slow_sl _ L1 _ (lay_row HR1.out H1.out) (by omega) HZ1.out).mono ?_
 rintro e w2 ⟨c,rfl,rfl,hc⟩
 cases c with
 | true=>
  go_wp2
  go_ret
  exact ⟨rfl,(lay_of H1.out).left.toBelow' Q1.out⟩
 | false=>
 have HC1:=zH (hc rfl);clear hc
 go_wp2_with fail
 refine (knew_sl _ H1.out).mono ?_
 rintro e w3 ⟨b,bg,rfl,q3,h3⟩
 have H3:=zH h3;have Q3:=zH (Q1.out.trans q3);clear h3 q3
 go_wp2_with fail
 refine (rnew_sl _ H3.out).mono ?_
 rintro e w4 ⟨rb,rc,rfl,q4,h4⟩
 obtain ⟨q7,hq7⟩:∃ q,w4.heap.size=q:=⟨_,rfl⟩
 have H4:=zH ((h4.boxB (ty:=22) (cs:=[.slice a0 L0.length n0,.slice a1 L1.length n1]) hq7).eq (by ac_rfl:_=kbl b bg*(gld bg Gld.zero*(rst rb rc []*(chp rc Gld.zero*(bl q7 22 [.slice a0 L0.length n0,.slice a1 L1.length n1]*(lay w*HP.emp)))))))
 have Q4:=zH ((Q3.out.trans q4).alloc (.cells #[.slice a0 L0.length n0,.slice a1 L1.length n1] 22));clear h4 q4
 go_wp2_with fail
 go_loopw [8] (fun i wr=>∃ (k:Nat) (G:Gld) (T:List UInt8) (R:HP),k≤2∧i=zI zi k∧G.Good∧Holds wr (kbl b bg*(gld bg G*(rst rb rc T*(chp rc G*(bl q7 22 [.slice a0 L0.length n0,.slice a1 L1.length n1]*(lay w*R))))))∧Quiet w wr) (fun i _=>2-(intOf i).toNat)
 case atStart=>exact ⟨0,_,_,_,by omega,rfl,good_zero,H4.out,Q4.out⟩
 case round=>
  obtain ⟨k,G,T,R,hk,rfl,hg,hh,hq⟩:=hrel
  have HH:=zH hh;have HQ:=zH hq;have HG:=zH hg
  clear hh hq hg
  obtain ⟨wo,rfl⟩:∃ wo:World,wo=wr:=⟨_,rfl⟩
  by_cases hlt:k<2
  ·obtain ⟨va,vn,vc,Lk,hcell,hrow,hzk,hnk,rfl⟩:∃ (va:Option Addr) (vn vc:Nat) (Lk:List (List UInt8)),([.slice a0 L0.length n0,.slice a1 L1.length n1]:List Value)[k]? = some (.slice va vn vc)∧Hid (∀ W A,Holds W (lay w*A)→RowAt W (.slice va vn vc) Lk.length (svls Lk))∧Hid (∀ s∈Lk,s.length≤9000)∧Lk.length≤200∧vn=Lk.length:=by
    have:k=0∨k=1:=by omega
    rcases this with rfl|rfl
    ·exact ⟨_,_,_,L0,rfl,zH (fun W A h=>lay_row HR0.out h),HC0,by omega,rfl⟩
    ·exact ⟨_,_,_,L1,rfl,zH (fun W A h=>lay_row HR1.out h),HC1,by omega,rfl⟩
   have HCELL:=zH hcell
   have y0:=HH.out.right.right.right.right.bl.cell k _ hcell
   clear hcell
   go_wp2_with fail
   refine (kdo_f b bg G _ Lk _ (HH.out.eq (by ac_rfl:_=kbl b bg*(gld bg G*(lay w*(rst rb rc T*(chp rc G*(bl q7 22 [.slice a0 L0.length n0,.slice a1 L1.length n1]*R))))))) HG.out (fun W h=>hrow.out W _ h) hzk.out).mono ?_
   obtain ⟨c,hc⟩:∃ c,(fo Lk).1=c:=⟨_,rfl⟩
   obtain ⟨a,ha⟩:∃ a,(fo Lk).2=a:=⟨_,rfl⟩
   have hlf:=fun W A h=>lfault_f (.slice va Lk.length vc) Lk W (R:=A) h
   simp only [hc,ha] at hlf ⊢
   have HLF:=zH hlf
   clear hlf hc ha
   rintro e w5 ⟨T1,G1,rfl,q5,h5,hg5,hcase⟩
   obtain ⟨p1,hp1⟩:∃ p,w5.heap.size=p:=⟨_,rfl⟩
   have H5:=zH (h5.boxB (ty:=31) (cs:=[zI zi 0,zI zi 0]) hp1);have Q5:=zH ((HQ.out.trans q5).alloc (.cells #[zI zi 0,zI zi 0] 31));have HG5:=zH hg5;have HCASE:=zH hcase
   clear h5 q5 hg5 hcase y0
   go_wp2_with (refine wpList_store_whole rfl 31 _ _ rfl p1 [zI zi c,zI zi a] rfl rfl H5.out.bl rfl (by kernel_rfl) (by simp [Ones,Value.oneCell']) ?_;intro w6 h1' h2' h3';have H6:=zH ((H5.out.grown h2' h1').eq (by ac_rfl:_=lay w*(bl q7 22 [.slice a0 L0.length n0,.slice a1 L1.length n1]*(bl p1 31 [zI zi c,zI zi a]*(kbl b bg*(gld bg G1*(rst rb rc T*(chp rc G*R))))))));have Q6:=zH (Q5.out.trans (Quiet.grown h2'));have y1:=H6.out.two.bl.cell k _ HCELL.out;clear h1' h2' h3')
   refine (HLF.out _ _ H6.out (hrow.out _ _ H6.out) hzk.out).mono ?_
   rintro e w7 ⟨rfl,q7',h7⟩
   obtain ⟨p2,hp2⟩:∃ p,w7.heap.size=p:=⟨_,rfl⟩
   obtain ⟨w8,hw8,H8,Q8⟩:∃ w8,w7.alloc (.cells #[zI zi c,zI zi a] 31)=w8∧Hid (Holds w8 (bl p2 31 [zI zi c,zI zi a]*(bl p1 31 [zI zi c,zI zi a]*(bl q7 22 [.slice a0 L0.length n0,.slice a1 L1.length n1]*(lay w*(kbl b bg*(gld bg G1*(rst rb rc T*(chp rc G*R)))))))))∧Hid (Quiet w w8):=
    ⟨_,rfl,zH ((h7.boxB (ty:=31) (cs:=[zI zi c,zI zi a]) hp2).eq (by ac_rfl)),zH ((Q6.out.trans q7').alloc _)⟩
   have y2:=H8.out.bl.cells;have y4:=H8.out.two.bl.cells;have y3:=H8.out.three.bl.cell k _ HCELL.out;have heq:=fault_eq c a
   clear h7 q7' y1
   rcases HCASE.out with ⟨rfl,hT,hG⟩|⟨hc0,rfl,rfl⟩
   ·have HT:=zH hT;have HGG:=zH hG
    clear hT hG
    obtain ⟨S1,hS1⟩:∃ S,strOf T1=S:=⟨_,rfl⟩
    rw [hS1]
    have HS1:=zH hS1;clear hS1
    go_wp2_with (first|(refine wpList_load_whole rfl 31 _ rfl p1 [zI zi 0,zI zi a] rfl H8.out.two.bl Tryz.underlying31 rfl (by kernel_rfl) ?_)|(refine wpList_load_whole rfl 31 _ rfl p2 [zI zi 0,zI zi a] rfl H8.out.bl Tryz.underlying31 rfl (by kernel_rfl) ?_))
    refine (rdo_sl rb rc T G _ Lk _ (H8.out.eq (by ac_rfl:_=rst rb rc T*(chp rc G*(lay w*(bl p2 31 [zI zi 0,zI zi a]*(bl p1 31 [zI zi 0,zI zi a]*(bl q7 22 [.slice a0 L0.length n0,.slice a1 L1.length n1]*(kbl b bg*(gld bg G1*R))))))))) HG.out (fun W h=>hrow.out W _ h) hnk hzk.out).mono ?_
    rw [←HT.out,HS1.out,←HGG.out]
    rintro e w9 ⟨rfl,q9,h9⟩
    have H9:=zH (h9.eq (by ac_rfl:_=kbl b bg*(gld bg G1*(rst rb rc T1*(chp rc G1*(bl q7 22 [.slice a0 L0.length n0,.slice a1 L1.length n1]*(lay w*(bl p2 31 [zI zi 0,zI zi a]*(bl p1 31 [zI zi 0,zI zi a]*R)))))))))
    have Q9:=zH (Q8.out.trans q9)
    clear h9 q9 y2 y3
    go_wp2_with fail
    go_roundw
    case rel=>exact ⟨k+1,G1,T1,_,by omega,by go_num,HG5.out,H9.out,Q9.out⟩
    case measure=>simp [intOf];omega
   ·have hc1:(c==0)=false:=by simpa using hc0
    have hs0:strOf []=(⟨#[]⟩:ByteArray):=rfl
    rw [hs0]
    clear hs0
    go_wp2_with (first|(refine wpList_load_whole rfl 31 _ rfl p1 [zI zi c,zI zi a] rfl H8.out.two.bl Tryz.underlying31 rfl (by kernel_rfl) ?_)|(refine wpList_load_whole rfl 31 _ rfl p2 [zI zi c,zI zi a] rfl H8.out.bl Tryz.underlying31 rfl (by kernel_rfl) ?_))
    go_roundw
    case rel=>exact ⟨k+1,G1,T,_,by omega,by go_num,HG5.out,H8.out.eq (by ac_rfl:_=kbl b bg*(gld bg G1*(rst rb rc T*(chp rc G1*(bl q7 22 [.slice a0 L0.length n0,.slice a1 L1.length n1]*(lay w*(bl p2 31 [zI zi c,zI zi a]*(bl p1 31 [zI zi c,zI zi a]*R)))))))),Q8.out⟩
    case measure=>simp [intOf];omega
  ·obtain rfl:k=2:=by omega
   go_wp2
   go_ret
   exact ⟨rfl,(lay_of (HH.out.right.right.right.right.right)).left.toBelow' HQ.out⟩
end Go.Proofs.YtfihmpkkpgmdhaaGreatDoor
