/-
  What the proof of DeskDoes leans on: definitions, laws, contracts of functions. No condition besides those that each theorem names.
-/
import Derived.Test.YtfihmpkkpgmdhaaGreatDoorZD33
import Derived.Test.YtfihmpkkpgmdhaaGreatDoorZD21
import Derived.Test.YtfihmpkkpgmdhaaGreatDoorZD24
import Derived.Test.YtfihmpkkpgmdhaaGreatDoorZD34
set_option maxRecDepth 100000
set_option maxHeartbeats 16000000
set_option linter.unusedVariables false
set_option linter.unusedSimpArgs false
set_option linter.unnecessarySimpa false
namespace Go.Proofs.YtfihmpkkpgmdhaaGreatDoor
open Go.RowKit
open List renaming setIfInBounds_toArray → zA, set_cons_zero → zB, set_cons_succ → zC
open Go.Act renaming put → zP
open Go.Lib renaming hid → zH
open Go.Value renaming int → zI
open Go.IntKind renaming i64 → zi
theorem rl_none (b bc:Nat) (told:List UInt8) (g:Gld) (s:List UInt8)  (hw:words s=[]) (hg:g.Good) (w:World) {w0:World} {R:HP} (h:Holds w (rst b bc told*(chp bc g*(lay w0*R)))) (hs:s.length≤9000) (ht:told.length≤200000000) :
  Calls Tryz.prog 18 #[.pointer (some ⟨b,0,none⟩),.string (strOf s)] w fun e w'=>e=.returned (.tuple #[])∧Quiet w w'∧Holds w' (rst b bc (told++[])*(chp bc g*(lay w0*R))):=by
 have H0:=zH h
 clear h
 go_enter Tryz.func18,Tryz.ntmps18
 go_wp2_with fail
 refine (rwords_sl s _ (by omega) H0.out).mono ?_
 rw [hw]
 rintro e w1 ⟨v1,rfl,q1,h1⟩
 obtain ⟨va,vc,rfl,-,-⟩:=h1.row.shape
 have H1:=zH h1;have Q1:=zH q1
 clear h1 q1
 simp only [List.length_nil]
 go_wp2
 first|go_end0|((try simp only [Exit.inBlock,Exit.then]);refine bodyPost_ret (results_none rfl _ _ _) rfl ?_)
 exact ⟨rfl,Q1.out.alloc _,by simpa using H1.out.right.alloc _⟩
theorem rlT_short (b bc:Nat) (told:List UInt8) (g:Gld) (s:List UInt8) (q:List (List UInt8)) (hq:q.length≤1) (hw:words s=(tTear::q)) (hg:g.Good) (w:World) {w0:World} {R:HP} (h:Holds w (rst b bc told*(chp bc g*(lay w0*R)))) (hs:s.length≤9000) (ht:told.length≤200000000) :
  Calls Tryz.prog 18 #[.pointer (some ⟨b,0,none⟩),.string (strOf s)] w fun e w'=>e=.returned (.tuple #[])∧Quiet w w'∧Holds w' (rst b bc (told++line tWhat)*(chp bc g*(lay w0*R))):=by
 have H0:=zH h
 obtain ⟨TT,hTT⟩:∃ TT,strOf tTear=TT:=⟨_,rfl⟩
 have hb0:=bytes_yes tTear
 rw [hTT] at hb0
 simp only [tTear] at hb0
 have HTT:=zH hTT;clear hTT
 have hn0:¬ ((q.length:Int)+1)=0:=by omega
 have hn1:(((q.length:Int)+1)==0)=false:=by simpa using hn0
 have hn3:((q.length:Int)+1)<3:=by omega
 have hp0:(0:Int)<(q.length:Int)+1:=by omega
 clear h
 go_enter Tryz.func18,Tryz.ntmps18
 go_wp2_with fail
 refine (rwords_sl s _ (by omega) H0.out).mono ?_
 rw [hw]
 rintro e w1 ⟨v1,rfl,q1,h1⟩
 obtain ⟨g1,c1,rfl,d1,d2⟩:=wds_cons h1
 obtain ⟨q4,hq4⟩:∃ q,w1.heap.size=q:=⟨_,rfl⟩
 obtain ⟨wa,hwa,HA,QA⟩:∃ wa,w1.alloc (.cells #[.slice (some ⟨g1,0,none⟩) (q.length+1) c1] 22)=wa∧Hid (Holds wa (bl q4 22 [.slice (some ⟨g1,0,none⟩) (q.length+1) c1]*(wds (.slice (some ⟨g1,0,none⟩) (q.length+1) c1) (tTear::q)*(rst b bc told*(chp bc g*(lay w0*R))))))∧Hid (Quiet w wa):=
  ⟨_,rfl,zH (h1.boxB (ty:=22) (cs:=[.slice (some ⟨g1,0,none⟩) (q.length+1) c1]) hq4),zH (q1.alloc _)⟩
 have y4:wa.cell? ⟨q4,0,none⟩=some (.slice (some ⟨g1,0,none⟩) (q.length+1) c1):=HA.out.bl.cell 0 _ rfl
 have y0:wa.cell? ⟨g1,0,none⟩=some (.string TT):=by rw [←HTT.out];exact wds_cells HA.out.two 0 tTear rfl
 clear h1 q1 hw
 go_wp2_with fail
 refine (rsay_sl b bc told tWhat _ HA.out.right.right (by omega) (by decide)).mono ?_
 rintro e w9 ⟨rfl,q9',h9⟩
 go_wp2
 first|go_end0|((try simp only [Exit.inBlock,Exit.then]);refine bodyPost_ret (results_none rfl _ _ _) rfl ?_)
 exact ⟨rfl,QA.out.trans q9',h9⟩
theorem rlT_keep (b bc:Nat) (told:List UInt8) (g:Gld) (s:List UInt8) (a x:List UInt8) (r:List (List UInt8)) (hka:numOf a=none) (hw:words s=(tTear::a::x::r)) (hg:g.Good) (w:World) {w0:World} {R:HP} (h:Holds w (rst b bc told*(chp bc g*(lay w0*R)))) (hs:s.length≤9000) (ht:told.length≤200000000) :
  Calls Tryz.prog 18 #[.pointer (some ⟨b,0,none⟩),.string (strOf s)] w fun e w'=>e=.returned (.tuple #[])∧Quiet w w'∧Holds w' (rst b bc (told++line tWhat)*(chp bc g*(lay w0*R))):=by
 have H0:=zH h;have HG:=zH hg
 obtain ⟨TT,hTT⟩:∃ TT,strOf tTear=TT:=⟨_,rfl⟩
 have hb0:=bytes_yes tTear
 rw [hTT] at hb0
 simp only [tTear] at hb0
 have HTT:=zH hTT;clear hTT
 have hrl:r.length≤9000:=by
  have:=words_len s
  rw [hw] at this;simp only [List.length_cons] at this;omega
 have hrz:∀ y∈r,y.length≤9000:=fun y hy=>by
  have:=words_size s y (by rw [hw];simp [hy])
  omega
 have haz:a.length≤9000:=by
  have:=words_size s a (by rw [hw];simp)
  omega
 have HRZ:=zH hrz;have HAZ:=zH haz
 have hn0:¬ ((r.length:Int)+3)=0:=by omega
 have hn1:(((r.length:Int)+3)==0)=false:=by simpa using hn0
 have hn3:¬ ((r.length:Int)+3)<3:=by omega
 have hp0:(0:Int)<(r.length:Int)+3:=by omega
 have hp1:(1:Int)<(r.length:Int)+3:=by omega
 have hp2:(2:Int)≤(r.length:Int)+3:=by omega
 obtain ⟨i0,hi,hz0,hz1,hz2⟩:=info_parts Tryz.infoI64
 have HI:=zH hi;have HZ0:=zH hz0;have HZ1:=zH hz1;have HZ2:=zH hz2
 have HKA:=zH hka
 clear h hg hrz hi hz0 hz1 hz2 hka haz
 go_enter Tryz.func18,Tryz.ntmps18
 go_wp2_with fail
 refine (rwords_sl s _ (by omega) H0.out).mono ?_
 rw [hw]
 rintro e w1 ⟨v1,rfl,q1,h1⟩
 obtain ⟨g1,c1,ev,d1,d2⟩:=wds_cons h1
 have ev':v1=.slice (some ⟨g1,0,none⟩) (r.length+3) c1:=ev
 replace d1:r.length+3≤c1:=d1
 clear ev
 subst ev'
 obtain ⟨q4,hq4⟩:∃ q,w1.heap.size=q:=⟨_,rfl⟩
 obtain ⟨wa,hwa,HA,QA⟩:∃ wa,w1.alloc (.cells #[.slice (some ⟨g1,0,none⟩) (r.length+3) c1] 22)=wa∧Hid (Holds wa (bl q4 22 [.slice (some ⟨g1,0,none⟩) (r.length+3) c1]*(wds (.slice (some ⟨g1,0,none⟩) (r.length+3) c1) (tTear::a::x::r)*(rst b bc told*(chp bc g*(lay w0*R))))))∧Hid (Quiet w wa):=
  ⟨_,rfl,zH (h1.boxB (ty:=22) (cs:=[.slice (some ⟨g1,0,none⟩) (r.length+3) c1]) hq4),zH (q1.alloc _)⟩
 have y4:wa.cell? ⟨q4,0,none⟩=some (.slice (some ⟨g1,0,none⟩) (r.length+3) c1):=HA.out.bl.cell 0 _ rfl
 have y0:wa.cell? ⟨g1,0,none⟩=some (.string TT):=by rw [←HTT.out];exact wds_cells HA.out.two 0 tTear rfl
 have y1:wa.cell? ⟨g1,1,none⟩=some (.string (strOf a)):=wds_cells HA.out.two 1 a rfl
 have HLA:=zH (lay_laid (HA.out.eq (by ac_rfl:_=lay w0*(bl q4 22 [.slice (some ⟨g1,0,none⟩) (r.length+3) c1]*(wds (.slice (some ⟨g1,0,none⟩) (r.length+3) c1) (tTear::a::x::r)*(rst b bc told*(chp bc g*R)))))))
 clear h1 q1 hw
 go_wp2_with fail
 rcases numOf_cases a with ⟨_,_,_,hb⟩|⟨K,hk1,hk2,_⟩|⟨hno,_⟩
 ·have:=HKA.out;rw [hb] at this;cases this
 ·refine (atoi_ok a K _ (by have:=HAZ.out;omega) hk1).mono ?_
  rintro e w2 ⟨rfl,b2⟩
  have H2:=zH (HA.out.below b2);have Q2:=zH (QA.out.trans (Quiet.below b2));have L2:=zH (HLA.out.below b2)
  clear b2 y4 y0 y1 hwa hq4
  have z4:w2.cell? ⟨q4,0,none⟩=some (.slice (some ⟨g1,0,none⟩) (r.length+3) c1):=H2.out.bl.cell 0 _ rfl
  have zj:w2.cell? ⟨g1,1,none⟩=some (.string (strOf a)):=wds_cells H2.out.two 1 a rfl
  go_wp2_with fail
  have hkb:=atoi_bound hk1
  have hyy:((strOf (Lib.itoa K)).toList==(strOf a).toList)=false:=by
   rw [show (strOf a).toList=a by simpa using bytes_yes a];exact bytes_no hk2
  clear hk1 hk2
  refine wp_region_lex (fun W=>W.cell? ⟨q4,0,none⟩=some (.slice (some ⟨g1,0,none⟩) (r.length+3) c1)∧W.cell? ⟨g1,1,none⟩=some (.string (strOf a))) [4] (by kernel_rfl) (by kernel_rfl) ⟨z4,zj⟩ ?_
  repeat (first|(refine LexL.none (by rfl) ?_;(try simp only [zP,zA,zB,zC]))|(refine LexL.still (v:=?_) (by rfl) ?_ ?_;rotate_left;(focus (intro W hW;(try dsimp only at hW);go_simp;(try (with_reducible rfl));done));(try simp only [zP,zA,zB,zC])))
  refine LexL.call (f:=32) (args:=#[zI zi K]) (w1:=w2.drew) (by rfl) (by decide) (by go_simp) ?_
  refine (rnum_sl K _ L2.out.drew hkb).mono ?_
  rintro e w3 ⟨rfl,b3⟩
  have H3:=zH (H2.out.drew.below b3);have Q3:=zH (Q2.out.drew.trans (Quiet.below b3))
  clear b3 z4 zj
  have z4:w3.cell? ⟨q4,0,none⟩=some (.slice (some ⟨g1,0,none⟩) (r.length+3) c1):=H3.out.bl.cell 0 _ rfl
  have zj:w3.cell? ⟨g1,1,none⟩=some (.string (strOf a)):=wds_cells H3.out.two 1 a rfl
  refine ⟨_,rfl,⟨z4,zj⟩,?_⟩
  try simp only [zP,zA,zB,zC]
  repeat (first|(refine LexL.none (by rfl) ?_;(try simp only [zP,zA,zB,zC]))|(refine LexL.still (v:=?_) (by rfl) ?_ ?_;rotate_left;(focus (intro W hW;(try dsimp only at hW);go_simp;(try (with_reducible rfl));done));(try simp only [zP,zA,zB,zC])))
  refine LexL.done ?_
  go_wp2_with fail
  refine (rsay_sl b bc told tWhat _ H3.out.right.right (by omega) (by decide)).mono ?_
  rintro e w9 ⟨rfl,q9',h9⟩
  go_wp2
  first|go_end0|((try simp only [Exit.inBlock,Exit.then]);refine bodyPost_ret (results_none rfl _ _ _) rfl ?_)
  exact ⟨rfl,Q3.out.trans q9',h9⟩
 ·refine (atoi_bad a _ HLA.out (by have:=HAZ.out;omega) hno).mono ?_
  rintro e w2 ⟨v,t',p',rfl,b2⟩
  have H2:=zH (HA.out.below b2);have Q2:=zH (QA.out.trans (Quiet.below b2));have L2:=zH (HLA.out.below b2)
  clear b2 y4 y0 y1 hwa hq4
  have z4:w2.cell? ⟨q4,0,none⟩=some (.slice (some ⟨g1,0,none⟩) (r.length+3) c1):=H2.out.bl.cell 0 _ rfl
  have zj:w2.cell? ⟨g1,1,none⟩=some (.string (strOf a)):=wds_cells H2.out.two 1 a rfl
  go_wp2_with fail
  refine wp_region_lex (fun W=>W.cell? ⟨q4,0,none⟩=some (.slice (some ⟨g1,0,none⟩) (r.length+3) c1)∧W.cell? ⟨g1,1,none⟩=some (.string (strOf a))) [4] (by kernel_rfl) (by kernel_rfl) ⟨z4,zj⟩ ?_
  repeat (first|(refine LexL.none (by rfl) ?_;(try simp only [zP,zA,zB,zC]))|(refine LexL.still (v:=?_) (by rfl) ?_ ?_;rotate_left;(focus (intro W hW;(try dsimp only at hW);go_simp;(try (with_reducible rfl));done));(try simp only [zP,zA,zB,zC])))
  refine LexL.done ?_
  go_wp2_with fail
  refine (rsay_sl b bc told tWhat _ H2.out.drew.right.right (by omega) (by decide)).mono ?_
  rintro e w9 ⟨rfl,q9',h9⟩
  go_wp2
  first|go_end0|((try simp only [Exit.inBlock,Exit.then]);refine bodyPost_ret (results_none rfl _ _ _) rfl ?_)
  exact ⟨rfl,Q2.out.drew.trans q9',h9⟩
theorem rlN_bad (b bc:Nat) (told:List UInt8) (g:Gld) (s:List UInt8) (x:List UInt8) (hx:x≠tTear) (r:List (List UInt8)) (m0:Nat) (hbd:∃ y,r[m0]? = some y∧numOf y=none) (hok:∀ j,j<m0→∀ x,r[j]? = some x→∃ v,numOf x=some v) (hw:words s=(x::r)) (hg:g.Good) (w:World) {w0:World} {R:HP} (h:Holds w (rst b bc told*(chp bc g*(lay w0*R)))) (hs:s.length≤9000) (ht:told.length≤200000000) :
  Calls Tryz.prog 18 #[.pointer (some ⟨b,0,none⟩),.string (strOf s)] w fun e w'=>e=.returned (.tuple #[])∧Quiet w w'∧Holds w' (rst b bc (told++line tWhat)*(chp bc g*(lay w0*R))):=by
 have H0:=zH h;have HG:=zH hg
 have hb0:=bytes_no hx
 simp only [tTear] at hb0
 have hrl:r.length≤9000:=by
  have:=words_len s
  rw [hw] at this;simp only [List.length_cons] at this;omega
 have hrz:∀ y∈r,y.length≤9000:=fun y hy=>by
  have:=words_size s y (by rw [hw];simp [hy])
  omega
 have HRZ:=zH hrz;have HX:=zH hx
 have hn0:¬ ((r.length:Int)+1)=0:=by omega
 have hn1:(((r.length:Int)+1)==0)=false:=by simpa using hn0
 have hp0:(0:Int)<(r.length:Int)+1:=by omega
 obtain ⟨i0,hi,hz0,hz1,hz2⟩:=info_parts Tryz.infoI64
 have HI:=zH hi;have HZ0:=zH hz0;have HZ1:=zH hz1;have HZ2:=zH hz2
 have HOK:=zH hok;have HBAD:=zH hbd
 have hm0l:m0<r.length:=by
  obtain ⟨y,hy,_⟩:=hbd
  exact (List.getElem?_eq_some_iff.1 hy).1
 clear hok hbd h hg hrz hx hi hz0 hz1 hz2
 go_enter Tryz.func18,Tryz.ntmps18
 go_wp2_with fail
 refine (rwords_sl s _ (by omega) H0.out).mono ?_
 rw [hw]
 rintro e w1 ⟨v1,rfl,q1,h1⟩
 obtain ⟨g1,c1,rfl,d1,d2⟩:=wds_cons h1
 obtain ⟨q4,hq4⟩:∃ q,w1.heap.size=q:=⟨_,rfl⟩
 obtain ⟨wa,hwa,HA,QA⟩:∃ wa,w1.alloc (.cells #[.slice (some ⟨g1,0,none⟩) (r.length+1) c1] 22)=wa∧Hid (Holds wa (bl q4 22 [.slice (some ⟨g1,0,none⟩) (r.length+1) c1]*(wds (.slice (some ⟨g1,0,none⟩) (r.length+1) c1) (x::r)*(rst b bc told*(chp bc g*(lay w0*R))))))∧Hid (Quiet w wa):=
  ⟨_,rfl,zH (h1.boxB (ty:=22) (cs:=[.slice (some ⟨g1,0,none⟩) (r.length+1) c1]) hq4),zH (q1.alloc _)⟩
 have y4:wa.cell? ⟨q4,0,none⟩=some (.slice (some ⟨g1,0,none⟩) (r.length+1) c1):=HA.out.bl.cell 0 _ rfl
 have y0:wa.cell? ⟨g1,0,none⟩=some (.string (strOf x)):=wds_cells HA.out.two 0 x rfl
 clear h1 q1 hw
 obtain ⟨q9,hq9⟩:∃ q,wa.heap.size=q:=⟨_,rfl⟩
 obtain ⟨wb,hwb,HB,QB⟩:∃ wb,wa.alloc (.cells #[.slice none 0 0] 70)=wb∧Hid (Holds wb (bl q9 70 [.slice none 0 0]*(bl q4 22 [.slice (some ⟨g1,0,none⟩) (r.length+1) c1]*(wds (.slice (some ⟨g1,0,none⟩) (r.length+1) c1) (x::r)*(rst b bc told*(chp bc g*(lay w0*R)))))))∧Hid (Quiet w wb):=
  ⟨_,rfl,zH (HA.out.boxB (ty:=70) (cs:=[.slice none 0 0]) hq9),zH (QA.out.alloc _)⟩
 go_wp2_with fail
 clear y4 y0 hwa hwb hq4 hq9 HA QA
 go_loopw [10] (fun vi wr=>∃ (j:Nat) (vn:Value) (z:List Int),1≤j∧j≤m0+1∧vi=zI zi j∧Holds wr (rw_ 3 1 vn (j-1) (ivs z)*(bl q9 70 [vn]*(bl q4 22 [(.slice (some ⟨g1,0,none⟩) (r.length+1) c1)]*(wds (.slice (some ⟨g1,0,none⟩) (r.length+1) c1) (x::r)*(rst b bc told*(chp bc g*(lay w0*R)))))))∧Quiet w wr) (fun vi _=>r.length+1-(intOf vi).toNat)
 case atStart=>exact ⟨1,_,[],by omega,by omega,rfl,HB.out.nilRow _ _,QB.out⟩
 case round=>
  obtain ⟨j,vn,z,hj1,hj2,rfl,hh,hq⟩:=hrel
  obtain ⟨wo,rfl⟩:∃ wo:World,wo=wr:=⟨_,rfl⟩
  obtain ⟨sa,sc,rfl,-,-⟩:=hh.row.shape
  have y4:wo.cell? ⟨q4,0,none⟩=some (.slice (some ⟨g1,0,none⟩) (r.length+1) c1):=hh.three.bl.cell 0 _ rfl
  have HH:=zH hh;have HQ:=zH hq
  clear hh hq
  by_cases hlt:j<m0+1
  ·obtain ⟨y,hy⟩:∃ y,r[j-1]? = some y:=⟨_,List.getElem?_eq_getElem (by omega)⟩
   have hy1:(x::r)[0+j]? = some y:=by
    obtain ⟨k,rfl⟩:∃ k,j=k+1:=⟨j-1,by omega⟩
    simpa  using hy
   have yj:wo.cell? ⟨g1,j,none⟩=some (.string (strOf y)):=wds_cells HH.out.four j y (by simpa using hy1)
   obtain ⟨m,hm2⟩:=HOK.out (j-1) (by omega) y hy
   have hyl:=HRZ.out y (List.mem_of_getElem? hy)
   have hmb:=numOf_bound hm2
   rcases numOf_cases y with ⟨m',ha,hya,hb⟩|⟨_,_,_,hb⟩|⟨_,hb⟩
   rotate_left
   ·rw [hb] at hm2;cases hm2
   ·rw [hb] at hm2;cases hm2
   obtain rfl:m'=m:=Option.some.inj (hb.symm.trans hm2)
   have hla:Laid wo:=lay_laid (HH.out.eq (by ac_rfl:_=lay w0*(rw_ 3 1 (.slice sa (j-1) sc) (j-1) (ivs z)*(bl q9 70 [.slice sa (j-1) sc]*(bl q4 22 [(.slice (some ⟨g1,0,none⟩) (r.length+1) c1)]*(wds (.slice (some ⟨g1,0,none⟩) (r.length+1) c1) (x::r)*(rst b bc told*(chp bc g*R))))))))
   have hlt':(j:Int)<(r.length:Int)+1:=by omega
   have HLA:=zH hla;have HAT:=zH ha;have HYL:=zH hyl;have HYA:=zH hya;have HY1:=zH hy1
   clear hla ha hy hy1 hm2 hb hyl hya
   go_wp2_with fail
   refine (atoi_ok _ m' _ (by have:=HYL.out;omega) HAT.out).mono ?_
   rintro e w2 ⟨rfl,b2⟩
   have H2:=zH (HH.out.below b2);have Q2:=zH (HQ.out.trans (Quiet.below b2));have L2:=zH (HLA.out.below b2)
   clear b2 y4 yj
   have z4:w2.cell? ⟨q4,0,none⟩=some (.slice (some ⟨g1,0,none⟩) (r.length+1) c1):=H2.out.three.bl.cell 0 _ rfl
   have zj:w2.cell? ⟨g1,j,none⟩=some (.string (strOf y)):=wds_cells H2.out.four j y (by simpa using HY1.out)
   go_wp2_with fail
   have hyy:((strOf (Lib.itoa m')).toList==(strOf y).toList)=true:=by rw [HYA.out];simp
   refine wp_region_lex (fun W=>W.cell? ⟨q4,0,none⟩=some (.slice (some ⟨g1,0,none⟩) (r.length+1) c1)∧W.cell? ⟨g1,j,none⟩=some (.string (strOf y))) [4] (by kernel_rfl) (by kernel_rfl) ⟨z4,zj⟩ ?_
   repeat (first|(refine LexL.none (by rfl) ?_;(try simp only [zP,zA,zB,zC]))|(refine LexL.still (v:=?_) (by rfl) ?_ ?_;rotate_left;(focus (intro W hW;(try dsimp only at hW);go_simp;(try (with_reducible rfl));done));(try simp only [zP,zA,zB,zC])))
   refine LexL.call (f:=32) (args:=#[zI zi m']) (w1:=w2.drew) (by rfl) (by decide) (by go_simp) ?_
   refine (rnum_sl m' _ L2.out.drew hmb).mono ?_
   rintro e w3 ⟨rfl,b3⟩
   have H3:=zH (H2.out.drew.below b3);have Q3:=zH (Q2.out.drew.trans (Quiet.below b3))
   clear b3 z4 zj
   have z4:w3.cell? ⟨q4,0,none⟩=some (.slice (some ⟨g1,0,none⟩) (r.length+1) c1):=H3.out.three.bl.cell 0 _ rfl
   have zj:w3.cell? ⟨g1,j,none⟩=some (.string (strOf y)):=wds_cells H3.out.four j y (by simpa using HY1.out)
   refine ⟨_,rfl,⟨z4,zj⟩,?_⟩
   try simp only [zP,zA,zB,zC]
   repeat (first|(refine LexL.none (by rfl) ?_;(try simp only [zP,zA,zB,zC]))|(refine LexL.still (v:=?_) (by rfl) ?_ ?_;rotate_left;(focus (intro W hW;(try dsimp only at hW);go_simp;(try (with_reducible rfl));done));(try simp only [zP,zA,zB,zC])))
   refine LexL.done ?_
   have z9:w3.cell? ⟨q9,0,none⟩=some (.slice sa (j-1) sc):=H3.out.two.bl.cell 0 _ rfl
   have H4:=zH (H3.out.alloc (.cells #[zI zi m'] 3))
   go_wp2_with (at_builtin;refine wpList_append_sl (n:=j-1) (m:=1) rfl _ _ 70 rfl 3 i0 _ 1 8 Tryz.underlying70 HI.out HZ0.out HZ1.out HZ2.out rfl (by decide) rfl rfl H4.out (ivs_row (l:=[m']) rfl (by simp) _ rfl _) rfl (ivs_ones [m']) (by omega) (by omega) ?_;intro v' w5 h5 q5;obtain ⟨va,vc,rfl,-,-⟩:=h5.row.shape;have H5:=zH h5;have Q5:=zH q5;have z5:w5.cell? ⟨q9,0,none⟩=some (.slice sa (j-1) sc):=h5.two.bl.cell 0 _ rfl;have f5:=h5.two.bl.free 0;clear h5 q5)
   go_roundw
   case rel=>exact ⟨j+1,.slice va j vc,z++[m'],by omega,by omega,by go_num,by rw [show j+1-1=j-1+1 by omega,ivs_append];exact (show Holds _ (rw_ 3 1 (.slice va j vc) (j-1+1) _*(bl q9 70 [.slice va j vc]*_)) from (by omega:j-1+1=j)▸(H5.out.two.setB 0 (.slice va (j-1+1) vc)).two),(Q3.out.trans (((Quiet.refl _).alloc _).trans Q5.out)).setCell _ _⟩
   case measure=>simp [intOf];omega
  ·have hje:j=m0+1:=by omega
   obtain ⟨y,hy,hbad⟩:=HBAD.out
   have hy1:(x::r)[0+j]? = some y:=by
    rw [hje]
    simpa  using hy
   have yj:wo.cell? ⟨g1,j,none⟩=some (.string (strOf y)):=wds_cells HH.out.four j y (by simpa using hy1)
   have hml:=(List.getElem?_eq_some_iff.1 hy).1
   have hlt':(j:Int)<(r.length:Int)+1:=by omega
   have hyl:=HRZ.out y (List.mem_of_getElem? hy)
   have hla:Laid wo:=lay_laid (HH.out.eq (by ac_rfl:_=lay w0*(rw_ 3 1 (.slice sa (j-1) sc) (j-1) (ivs z)*(bl q9 70 [.slice sa (j-1) sc]*(bl q4 22 [(.slice (some ⟨g1,0,none⟩) (r.length+1) c1)]*(wds (.slice (some ⟨g1,0,none⟩) (r.length+1) c1) (x::r)*(rst b bc told*(chp bc g*R))))))))
   have HLA:=zH hla;have HYL:=zH hyl;have HY1:=zH hy1
   clear hla hy hy1 hyl hje hlt
   go_wp2_with fail
   rcases numOf_cases y with ⟨_,_,_,hb⟩|⟨K,hk1,hk2,_⟩|⟨hno,_⟩
   ·rw [hb] at hbad;cases hbad
   ·refine (atoi_ok y K _ (by have:=HYL.out;omega) hk1).mono ?_
    rintro e w2 ⟨rfl,b2⟩
    have H2:=zH (HH.out.below b2);have Q2:=zH (HQ.out.trans (Quiet.below b2));have L2:=zH (HLA.out.below b2)
    clear b2 y4 yj
    have z4:w2.cell? ⟨q4,0,none⟩=some (.slice (some ⟨g1,0,none⟩) (r.length+1) c1):=H2.out.three.bl.cell 0 _ rfl
    have zj:w2.cell? ⟨g1,j,none⟩=some (.string (strOf y)):=wds_cells H2.out.four j y (by simpa using HY1.out)
    go_wp2_with fail
    have hkb:=atoi_bound hk1
    have hyy:((strOf (Lib.itoa K)).toList==(strOf y).toList)=false:=by
     rw [show (strOf y).toList=y by simpa using bytes_yes y];exact bytes_no hk2
    clear hk1 hk2 hbad
    refine wp_region_lex (fun W=>W.cell? ⟨q4,0,none⟩=some (.slice (some ⟨g1,0,none⟩) (r.length+1) c1)∧W.cell? ⟨g1,j,none⟩=some (.string (strOf y))) [4] (by kernel_rfl) (by kernel_rfl) ⟨z4,zj⟩ ?_
    repeat (first|(refine LexL.none (by rfl) ?_;(try simp only [zP,zA,zB,zC]))|(refine LexL.still (v:=?_) (by rfl) ?_ ?_;rotate_left;(focus (intro W hW;(try dsimp only at hW);go_simp;(try (with_reducible rfl));done));(try simp only [zP,zA,zB,zC])))
    refine LexL.call (f:=32) (args:=#[zI zi K]) (w1:=w2.drew) (by rfl) (by decide) (by go_simp) ?_
    refine (rnum_sl K _ L2.out.drew hkb).mono ?_
    rintro e w3 ⟨rfl,b3⟩
    have H3:=zH (H2.out.drew.below b3);have Q3:=zH (Q2.out.drew.trans (Quiet.below b3))
    clear b3 z4 zj
    have z4:w3.cell? ⟨q4,0,none⟩=some (.slice (some ⟨g1,0,none⟩) (r.length+1) c1):=H3.out.three.bl.cell 0 _ rfl
    have zj:w3.cell? ⟨g1,j,none⟩=some (.string (strOf y)):=wds_cells H3.out.four j y (by simpa using HY1.out)
    refine ⟨_,rfl,⟨z4,zj⟩,?_⟩
    try simp only [zP,zA,zB,zC]
    repeat (first|(refine LexL.none (by rfl) ?_;(try simp only [zP,zA,zB,zC]))|(refine LexL.still (v:=?_) (by rfl) ?_ ?_;rotate_left;(focus (intro W hW;(try dsimp only at hW);go_simp;(try (with_reducible rfl));done));(try simp only [zP,zA,zB,zC])))
    refine LexL.done ?_
    go_wp2_with fail
    refine (rsay_sl b bc told tWhat _ H3.out.right.right.right.right (by omega) (by decide)).mono ?_
    rintro e w9 ⟨rfl,q9',h9⟩
    go_wp2
    first|go_end0|((try simp only [Exit.inBlock,Exit.then]);refine bodyPost_ret (results_none rfl _ _ _) rfl ?_)
    exact ⟨rfl,Q3.out.trans q9',h9⟩
   ·refine (atoi_bad y _ HLA.out (by have:=HYL.out;omega) hno).mono ?_
    rintro e w2 ⟨v,t',p',rfl,b2⟩
    have H2:=zH (HH.out.below b2);have Q2:=zH (HQ.out.trans (Quiet.below b2));have L2:=zH (HLA.out.below b2)
    clear b2 y4 yj
    have z4:w2.cell? ⟨q4,0,none⟩=some (.slice (some ⟨g1,0,none⟩) (r.length+1) c1):=H2.out.three.bl.cell 0 _ rfl
    have zj:w2.cell? ⟨g1,j,none⟩=some (.string (strOf y)):=wds_cells H2.out.four j y (by simpa using HY1.out)
    go_wp2_with fail
    refine wp_region_lex (fun W=>W.cell? ⟨q4,0,none⟩=some (.slice (some ⟨g1,0,none⟩) (r.length+1) c1)∧W.cell? ⟨g1,j,none⟩=some (.string (strOf y))) [4] (by kernel_rfl) (by kernel_rfl) ⟨z4,zj⟩ ?_
    repeat (first|(refine LexL.none (by rfl) ?_;(try simp only [zP,zA,zB,zC]))|(refine LexL.still (v:=?_) (by rfl) ?_ ?_;rotate_left;(focus (intro W hW;(try dsimp only at hW);go_simp;(try (with_reducible rfl));done));(try simp only [zP,zA,zB,zC])))
    refine LexL.done ?_
    go_wp2_with fail
    refine (rsay_sl b bc told tWhat _ H2.out.drew.right.right.right.right (by omega) (by decide)).mono ?_
    rintro e w9 ⟨rfl,q9',h9⟩
    go_wp2
    first|go_end0|((try simp only [Exit.inBlock,Exit.then]);refine bodyPost_ret (results_none rfl _ _ _) rfl ?_)
    exact ⟨rfl,Q2.out.drew.trans q9',h9⟩
theorem rlT_bad (b bc:Nat) (told:List UInt8) (g:Gld) (s:List UInt8) (a:List UInt8) (K:Int) (hka:numOf a=some K) (x:List UInt8) (r:List (List UInt8)) (m0:Nat) (hbd:∃ y,r[m0]? = some y∧numOf y=none) (hok:∀ j,j<m0→∀ x,r[j]? = some x→∃ v,numOf x=some v) (hw:words s=(tTear::a::x::r)) (hg:g.Good) (w:World) {w0:World} {R:HP} (h:Holds w (rst b bc told*(chp bc g*(lay w0*R)))) (hs:s.length≤9000) (ht:told.length≤200000000) :
  Calls Tryz.prog 18 #[.pointer (some ⟨b,0,none⟩),.string (strOf s)] w fun e w'=>e=.returned (.tuple #[])∧Quiet w w'∧Holds w' (rst b bc (told++line tWhat)*(chp bc g*(lay w0*R))):=by
 have H0:=zH h;have HG:=zH hg
 obtain ⟨TT,hTT⟩:∃ TT,strOf tTear=TT:=⟨_,rfl⟩
 have hb0:=bytes_yes tTear
 rw [hTT] at hb0
 simp only [tTear] at hb0
 have HTT:=zH hTT;clear hTT
 have hrl:r.length≤9000:=by
  have:=words_len s
  rw [hw] at this;simp only [List.length_cons] at this;omega
 have hrz:∀ y∈r,y.length≤9000:=fun y hy=>by
  have:=words_size s y (by rw [hw];simp [hy])
  omega
 have haz:a.length≤9000:=by
  have:=words_size s a (by rw [hw];simp)
  omega
 have HRZ:=zH hrz;have HAZ:=zH haz
 have hkb:=numOf_bound hka
 obtain ⟨hk1,hk2⟩:Lib.atoiAll a=.ok K∧Lib.itoa K=a:=by
  rcases numOf_cases a with ⟨m',ha,hya,hb⟩|⟨_,_,_,hb⟩|⟨_,hb⟩
  ·obtain rfl:m'=K:=Option.some.inj (hb.symm.trans hka)
   exact ⟨ha,hya⟩
  ·rw [hb] at hka;cases hka
  ·rw [hb] at hka;cases hka
 have HK1:=zH hk1;have HK2:=zH hk2
 have hn0:¬ ((r.length:Int)+3)=0:=by omega
 have hn1:(((r.length:Int)+3)==0)=false:=by simpa using hn0
 have hn3:¬ ((r.length:Int)+3)<3:=by omega
 have hp0:(0:Int)<(r.length:Int)+3:=by omega
 have hp1:(1:Int)<(r.length:Int)+3:=by omega
 have hp2:(2:Int)≤(r.length:Int)+3:=by omega
 obtain ⟨i0,hi,hz0,hz1,hz2⟩:=info_parts Tryz.infoI64
 have HI:=zH hi;have HZ0:=zH hz0;have HZ1:=zH hz1;have HZ2:=zH hz2
 have HOK:=zH hok;have HBAD:=zH hbd
 have hm0l:m0<r.length:=by
  obtain ⟨y,hy,_⟩:=hbd
  exact (List.getElem?_eq_some_iff.1 hy).1
 clear hok hbd h hg hrz hi hz0 hz1 hz2 hka hk1 hk2 haz
 go_enter Tryz.func18,Tryz.ntmps18
 go_wp2_with fail
 refine (rwords_sl s _ (by omega) H0.out).mono ?_
 rw [hw]
 rintro e w1 ⟨v1,rfl,q1,h1⟩
 obtain ⟨g1,c1,ev,d1,d2⟩:=wds_cons h1
 have ev':v1=.slice (some ⟨g1,0,none⟩) (r.length+3) c1:=ev
 replace d1:r.length+3≤c1:=d1
 clear ev
 subst ev'
 obtain ⟨q4,hq4⟩:∃ q,w1.heap.size=q:=⟨_,rfl⟩
 obtain ⟨wa,hwa,HA,QA⟩:∃ wa,w1.alloc (.cells #[.slice (some ⟨g1,0,none⟩) (r.length+3) c1] 22)=wa∧Hid (Holds wa (bl q4 22 [.slice (some ⟨g1,0,none⟩) (r.length+3) c1]*(wds (.slice (some ⟨g1,0,none⟩) (r.length+3) c1) (tTear::a::x::r)*(rst b bc told*(chp bc g*(lay w0*R))))))∧Hid (Quiet w wa):=
  ⟨_,rfl,zH (h1.boxB (ty:=22) (cs:=[.slice (some ⟨g1,0,none⟩) (r.length+3) c1]) hq4),zH (q1.alloc _)⟩
 have y4:wa.cell? ⟨q4,0,none⟩=some (.slice (some ⟨g1,0,none⟩) (r.length+3) c1):=HA.out.bl.cell 0 _ rfl
 have y0:wa.cell? ⟨g1,0,none⟩=some (.string TT):=by rw [←HTT.out];exact wds_cells HA.out.two 0 tTear rfl
 have y1:wa.cell? ⟨g1,1,none⟩=some (.string (strOf a)):=wds_cells HA.out.two 1 a rfl
 have HLA:=zH (lay_laid (HA.out.eq (by ac_rfl:_=lay w0*(bl q4 22 [.slice (some ⟨g1,0,none⟩) (r.length+3) c1]*(wds (.slice (some ⟨g1,0,none⟩) (r.length+3) c1) (tTear::a::x::r)*(rst b bc told*(chp bc g*R)))))))
 clear h1 q1 hw
 go_wp2_with fail
 refine (atoi_ok a K _ (by have:=HAZ.out;omega) HK1.out).mono ?_
 rintro e w2 ⟨rfl,b2⟩
 have H2:=zH (HA.out.below b2);have Q2:=zH (QA.out.trans (Quiet.below b2));have L2:=zH (HLA.out.below b2)
 clear b2 y4 y0 y1 hwa hq4
 have z4:w2.cell? ⟨q4,0,none⟩=some (.slice (some ⟨g1,0,none⟩) (r.length+3) c1):=H2.out.bl.cell 0 _ rfl
 have zj:w2.cell? ⟨g1,1,none⟩=some (.string (strOf a)):=wds_cells H2.out.two 1 a rfl
 go_wp2_with fail
 have hyy:((strOf (Lib.itoa K)).toList==(strOf a).toList)=true:=by rw [HK2.out];simp
 refine wp_region_lex (fun W=>W.cell? ⟨q4,0,none⟩=some (.slice (some ⟨g1,0,none⟩) (r.length+3) c1)∧W.cell? ⟨g1,1,none⟩=some (.string (strOf a))) [4] (by kernel_rfl) (by kernel_rfl) ⟨z4,zj⟩ ?_
 repeat (first|(refine LexL.none (by rfl) ?_;(try simp only [zP,zA,zB,zC]))|(refine LexL.still (v:=?_) (by rfl) ?_ ?_;rotate_left;(focus (intro W hW;(try dsimp only at hW);go_simp;(try (with_reducible rfl));done));(try simp only [zP,zA,zB,zC])))
 refine LexL.call (f:=32) (args:=#[zI zi K]) (w1:=w2.drew) (by rfl) (by decide) (by go_simp) ?_
 refine (rnum_sl K _ L2.out.drew hkb).mono ?_
 rintro e w3 ⟨rfl,b3⟩
 have H3:=zH (H2.out.drew.below b3);have Q3:=zH (Q2.out.drew.trans (Quiet.below b3))
 clear b3 z4 zj
 have z4:w3.cell? ⟨q4,0,none⟩=some (.slice (some ⟨g1,0,none⟩) (r.length+3) c1):=H3.out.bl.cell 0 _ rfl
 have zj:w3.cell? ⟨g1,1,none⟩=some (.string (strOf a)):=wds_cells H3.out.two 1 a rfl
 have f4:=H3.out.bl.free 0
 refine ⟨_,rfl,⟨z4,zj⟩,?_⟩
 try simp only [zP,zA,zB,zC]
 repeat (first|(refine LexL.none (by rfl) ?_;(try simp only [zP,zA,zB,zC]))|(refine LexL.still (v:=?_) (by rfl) ?_ ?_;rotate_left;(focus (intro W hW;(try dsimp only at hW);go_simp;(try (with_reducible rfl));done));(try simp only [zP,zA,zB,zC])))
 refine LexL.done ?_
 have hc2:2<c1:=by omega
 have hc3:(2:Int)≤(c1:Int):=by omega
 have H4:=zH (H3.out.setB 0 (.slice (some ⟨g1,2,none⟩) (r.length+1) (c1-2)))
 obtain ⟨wc',hwc⟩:∃ wc',w3.setCell ⟨q4,0,none⟩ (.slice (some ⟨g1,2,none⟩) (r.length+1) (c1-2))=wc':=⟨_,rfl⟩
 have QC:=zH (hwc▸Q3.out.setCell ⟨q4,0,none⟩ (.slice (some ⟨g1,2,none⟩) (r.length+1) (c1-2)))
 have HC:Hid (Holds wc' (bl q4 22 [(.slice (some ⟨g1,2,none⟩) (r.length+1) (c1-2))]*(wds (.slice (some ⟨g1,0,none⟩) (r.length+3) c1) (tTear::a::x::r)*(rst b bc told*(chp bc g*(lay w0*R)))))):=zH (hwc▸H4.out)
 clear H4
 obtain ⟨q9,hq9⟩:∃ q,wc'.heap.size=q:=⟨_,rfl⟩
 obtain ⟨wb,hwb,HB,QB⟩:∃ wb,wc'.alloc (.cells #[.slice none 0 0] 70)=wb∧Hid (Holds wb (bl q9 70 [.slice none 0 0]*(bl q4 22 [(.slice (some ⟨g1,2,none⟩) (r.length+1) (c1-2))]*(wds (.slice (some ⟨g1,0,none⟩) (r.length+3) c1) (tTear::a::x::r)*(rst b bc told*(chp bc g*(lay w0*R)))))))∧Hid (Quiet w wb):=
  ⟨_,rfl,zH (HC.out.boxB (ty:=70) (cs:=[.slice none 0 0]) hq9),zH (QC.out.alloc _)⟩
 go_wp2_with fail
 clear z4 zj f4 hwc hwb hq9 H3 Q3 HC QC hc2 hc3
 go_loopw [10] (fun vi wr=>∃ (j:Nat) (vn:Value) (z:List Int),1≤j∧j≤m0+1∧vi=zI zi j∧Holds wr (rw_ 3 1 vn (j-1) (ivs z)*(bl q9 70 [vn]*(bl q4 22 [(.slice (some ⟨g1,2,none⟩) (r.length+1) (c1-2))]*(wds (.slice (some ⟨g1,0,none⟩) (r.length+3) c1) (tTear::a::x::r)*(rst b bc told*(chp bc g*(lay w0*R)))))))∧Quiet w wr) (fun vi _=>r.length+1-(intOf vi).toNat)
 case atStart=>exact ⟨1,_,[],by omega,by omega,rfl,HB.out.nilRow _ _,QB.out⟩
 case round=>
  obtain ⟨j,vn,z,hj1,hj2,rfl,hh,hq⟩:=hrel
  obtain ⟨wo,rfl⟩:∃ wo:World,wo=wr:=⟨_,rfl⟩
  obtain ⟨sa,sc,rfl,-,-⟩:=hh.row.shape
  have y4:wo.cell? ⟨q4,0,none⟩=some (.slice (some ⟨g1,2,none⟩) (r.length+1) (c1-2)):=hh.three.bl.cell 0 _ rfl
  have HH:=zH hh;have HQ:=zH hq
  clear hh hq
  by_cases hlt:j<m0+1
  ·obtain ⟨y,hy⟩:∃ y,r[j-1]? = some y:=⟨_,List.getElem?_eq_getElem (by omega)⟩
   have hy1:(tTear::a::x::r)[2+j]? = some y:=by
    obtain ⟨k,rfl⟩:∃ k,j=k+1:=⟨j-1,by omega⟩
    simpa [show 2+(k+1)=k+3 by omega] using hy
   have yj:wo.cell? ⟨g1,(2+j),none⟩=some (.string (strOf y)):=wds_cells HH.out.four (2+j) y (by simpa using hy1)
   obtain ⟨m,hm2⟩:=HOK.out (j-1) (by omega) y hy
   have hyl:=HRZ.out y (List.mem_of_getElem? hy)
   have hmb:=numOf_bound hm2
   rcases numOf_cases y with ⟨m',ha,hya,hb⟩|⟨_,_,_,hb⟩|⟨_,hb⟩
   rotate_left
   ·rw [hb] at hm2;cases hm2
   ·rw [hb] at hm2;cases hm2
   obtain rfl:m'=m:=Option.some.inj (hb.symm.trans hm2)
   have hla:Laid wo:=lay_laid (HH.out.eq (by ac_rfl:_=lay w0*(rw_ 3 1 (.slice sa (j-1) sc) (j-1) (ivs z)*(bl q9 70 [.slice sa (j-1) sc]*(bl q4 22 [(.slice (some ⟨g1,2,none⟩) (r.length+1) (c1-2))]*(wds (.slice (some ⟨g1,0,none⟩) (r.length+3) c1) (tTear::a::x::r)*(rst b bc told*(chp bc g*R))))))))
   have hlt':(j:Int)<(r.length:Int)+1:=by omega
   have HLA:=zH hla;have HAT:=zH ha;have HYL:=zH hyl;have HYA:=zH hya;have HY1:=zH hy1
   clear hla ha hy hy1 hm2 hb hyl hya
   go_wp2_with fail
   refine (atoi_ok _ m' _ (by have:=HYL.out;omega) HAT.out).mono ?_
   rintro e w2 ⟨rfl,b2⟩
   have H2:=zH (HH.out.below b2);have Q2:=zH (HQ.out.trans (Quiet.below b2));have L2:=zH (HLA.out.below b2)
   clear b2 y4 yj
   have z4:w2.cell? ⟨q4,0,none⟩=some (.slice (some ⟨g1,2,none⟩) (r.length+1) (c1-2)):=H2.out.three.bl.cell 0 _ rfl
   have zj:w2.cell? ⟨g1,(2+j),none⟩=some (.string (strOf y)):=wds_cells H2.out.four (2+j) y (by simpa using HY1.out)
   go_wp2_with fail
   have hyy:((strOf (Lib.itoa m')).toList==(strOf y).toList)=true:=by rw [HYA.out];simp
   refine wp_region_lex (fun W=>W.cell? ⟨q4,0,none⟩=some (.slice (some ⟨g1,2,none⟩) (r.length+1) (c1-2))∧W.cell? ⟨g1,(2+j),none⟩=some (.string (strOf y))) [4] (by kernel_rfl) (by kernel_rfl) ⟨z4,zj⟩ ?_
   repeat (first|(refine LexL.none (by rfl) ?_;(try simp only [zP,zA,zB,zC]))|(refine LexL.still (v:=?_) (by rfl) ?_ ?_;rotate_left;(focus (intro W hW;(try dsimp only at hW);go_simp;(try (with_reducible rfl));done));(try simp only [zP,zA,zB,zC])))
   refine LexL.call (f:=32) (args:=#[zI zi m']) (w1:=w2.drew) (by rfl) (by decide) (by go_simp) ?_
   refine (rnum_sl m' _ L2.out.drew hmb).mono ?_
   rintro e w3 ⟨rfl,b3⟩
   have H3:=zH (H2.out.drew.below b3);have Q3:=zH (Q2.out.drew.trans (Quiet.below b3))
   clear b3 z4 zj
   have z4:w3.cell? ⟨q4,0,none⟩=some (.slice (some ⟨g1,2,none⟩) (r.length+1) (c1-2)):=H3.out.three.bl.cell 0 _ rfl
   have zj:w3.cell? ⟨g1,(2+j),none⟩=some (.string (strOf y)):=wds_cells H3.out.four (2+j) y (by simpa using HY1.out)
   refine ⟨_,rfl,⟨z4,zj⟩,?_⟩
   try simp only [zP,zA,zB,zC]
   repeat (first|(refine LexL.none (by rfl) ?_;(try simp only [zP,zA,zB,zC]))|(refine LexL.still (v:=?_) (by rfl) ?_ ?_;rotate_left;(focus (intro W hW;(try dsimp only at hW);go_simp;(try (with_reducible rfl));done));(try simp only [zP,zA,zB,zC])))
   refine LexL.done ?_
   have z9:w3.cell? ⟨q9,0,none⟩=some (.slice sa (j-1) sc):=H3.out.two.bl.cell 0 _ rfl
   have H4:=zH (H3.out.alloc (.cells #[zI zi m'] 3))
   go_wp2_with (at_builtin;refine wpList_append_sl (n:=j-1) (m:=1) rfl _ _ 70 rfl 3 i0 _ 1 8 Tryz.underlying70 HI.out HZ0.out HZ1.out HZ2.out rfl (by decide) rfl rfl H4.out (ivs_row (l:=[m']) rfl (by simp) _ rfl _) rfl (ivs_ones [m']) (by omega) (by omega) ?_;intro v' w5 h5 q5;obtain ⟨va,vc,rfl,-,-⟩:=h5.row.shape;have H5:=zH h5;have Q5:=zH q5;have z5:w5.cell? ⟨q9,0,none⟩=some (.slice sa (j-1) sc):=h5.two.bl.cell 0 _ rfl;have f5:=h5.two.bl.free 0;clear h5 q5)
   go_roundw
   case rel=>exact ⟨j+1,.slice va j vc,z++[m'],by omega,by omega,by go_num,by rw [show j+1-1=j-1+1 by omega,ivs_append];exact (show Holds _ (rw_ 3 1 (.slice va j vc) (j-1+1) _*(bl q9 70 [.slice va j vc]*_)) from (by omega:j-1+1=j)▸(H5.out.two.setB 0 (.slice va (j-1+1) vc)).two),(Q3.out.trans (((Quiet.refl _).alloc _).trans Q5.out)).setCell _ _⟩
   case measure=>simp [intOf];omega
  ·have hje:j=m0+1:=by omega
   obtain ⟨y,hy,hbad⟩:=HBAD.out
   have hy1:(tTear::a::x::r)[2+j]? = some y:=by
    rw [hje]
    simpa [show 2+(m0+1)=m0+3 by omega] using hy
   have yj:wo.cell? ⟨g1,(2+j),none⟩=some (.string (strOf y)):=wds_cells HH.out.four (2+j) y (by simpa using hy1)
   have hml:=(List.getElem?_eq_some_iff.1 hy).1
   have hlt':(j:Int)<(r.length:Int)+1:=by omega
   have hyl:=HRZ.out y (List.mem_of_getElem? hy)
   have hla:Laid wo:=lay_laid (HH.out.eq (by ac_rfl:_=lay w0*(rw_ 3 1 (.slice sa (j-1) sc) (j-1) (ivs z)*(bl q9 70 [.slice sa (j-1) sc]*(bl q4 22 [(.slice (some ⟨g1,2,none⟩) (r.length+1) (c1-2))]*(wds (.slice (some ⟨g1,0,none⟩) (r.length+3) c1) (tTear::a::x::r)*(rst b bc told*(chp bc g*R))))))))
   have HLA:=zH hla;have HYL:=zH hyl;have HY1:=zH hy1
   clear hla hy hy1 hyl hje hlt
   go_wp2_with fail
   rcases numOf_cases y with ⟨_,_,_,hb⟩|⟨K,hk1,hk2,_⟩|⟨hno,_⟩
   ·rw [hb] at hbad;cases hbad
   ·refine (atoi_ok y K _ (by have:=HYL.out;omega) hk1).mono ?_
    rintro e w2 ⟨rfl,b2⟩
    have H2:=zH (HH.out.below b2);have Q2:=zH (HQ.out.trans (Quiet.below b2));have L2:=zH (HLA.out.below b2)
    clear b2 y4 yj
    have z4:w2.cell? ⟨q4,0,none⟩=some (.slice (some ⟨g1,2,none⟩) (r.length+1) (c1-2)):=H2.out.three.bl.cell 0 _ rfl
    have zj:w2.cell? ⟨g1,(2+j),none⟩=some (.string (strOf y)):=wds_cells H2.out.four (2+j) y (by simpa using HY1.out)
    go_wp2_with fail
    have hkb:=atoi_bound hk1
    have hyy:((strOf (Lib.itoa K)).toList==(strOf y).toList)=false:=by
     rw [show (strOf y).toList=y by simpa using bytes_yes y];exact bytes_no hk2
    clear hk1 hk2 hbad
    refine wp_region_lex (fun W=>W.cell? ⟨q4,0,none⟩=some (.slice (some ⟨g1,2,none⟩) (r.length+1) (c1-2))∧W.cell? ⟨g1,(2+j),none⟩=some (.string (strOf y))) [4] (by kernel_rfl) (by kernel_rfl) ⟨z4,zj⟩ ?_
    repeat (first|(refine LexL.none (by rfl) ?_;(try simp only [zP,zA,zB,zC]))|(refine LexL.still (v:=?_) (by rfl) ?_ ?_;rotate_left;(focus (intro W hW;(try dsimp only at hW);go_simp;(try (with_reducible rfl));done));(try simp only [zP,zA,zB,zC])))
    refine LexL.call (f:=32) (args:=#[zI zi K]) (w1:=w2.drew) (by rfl) (by decide) (by go_simp) ?_
    refine (rnum_sl K _ L2.out.drew hkb).mono ?_
    rintro e w3 ⟨rfl,b3⟩
    have H3:=zH (H2.out.drew.below b3);have Q3:=zH (Q2.out.drew.trans (Quiet.below b3))
    clear b3 z4 zj
    have z4:w3.cell? ⟨q4,0,none⟩=some (.slice (some ⟨g1,2,none⟩) (r.length+1) (c1-2)):=H3.out.three.bl.cell 0 _ rfl
    have zj:w3.cell? ⟨g1,(2+j),none⟩=some (.string (strOf y)):=wds_cells H3.out.four (2+j) y (by simpa using HY1.out)
    refine ⟨_,rfl,⟨z4,zj⟩,?_⟩
    try simp only [zP,zA,zB,zC]
    repeat (first|(refine LexL.none (by rfl) ?_;(try simp only [zP,zA,zB,zC]))|(refine LexL.still (v:=?_) (by rfl) ?_ ?_;rotate_left;(focus (intro W hW;(try dsimp only at hW);go_simp;(try (with_reducible rfl));done));(try simp only [zP,zA,zB,zC])))
    refine LexL.done ?_
    go_wp2_with fail
    refine (rsay_sl b bc told tWhat _ H3.out.right.right.right.right (by omega) (by decide)).mono ?_
    rintro e w9 ⟨rfl,q9',h9⟩
    go_wp2
    first|go_end0|((try simp only [Exit.inBlock,Exit.then]);refine bodyPost_ret (results_none rfl _ _ _) rfl ?_)
    exact ⟨rfl,Q3.out.trans q9',h9⟩
   ·refine (atoi_bad y _ HLA.out (by have:=HYL.out;omega) hno).mono ?_
    rintro e w2 ⟨v,t',p',rfl,b2⟩
    have H2:=zH (HH.out.below b2);have Q2:=zH (HQ.out.trans (Quiet.below b2));have L2:=zH (HLA.out.below b2)
    clear b2 y4 yj
    have z4:w2.cell? ⟨q4,0,none⟩=some (.slice (some ⟨g1,2,none⟩) (r.length+1) (c1-2)):=H2.out.three.bl.cell 0 _ rfl
    have zj:w2.cell? ⟨g1,(2+j),none⟩=some (.string (strOf y)):=wds_cells H2.out.four (2+j) y (by simpa using HY1.out)
    go_wp2_with fail
    refine wp_region_lex (fun W=>W.cell? ⟨q4,0,none⟩=some (.slice (some ⟨g1,2,none⟩) (r.length+1) (c1-2))∧W.cell? ⟨g1,(2+j),none⟩=some (.string (strOf y))) [4] (by kernel_rfl) (by kernel_rfl) ⟨z4,zj⟩ ?_
    repeat (first|(refine LexL.none (by rfl) ?_;(try simp only [zP,zA,zB,zC]))|(refine LexL.still (v:=?_) (by rfl) ?_ ?_;rotate_left;(focus (intro W hW;(try dsimp only at hW);go_simp;(try (with_reducible rfl));done));(try simp only [zP,zA,zB,zC])))
    refine LexL.done ?_
    go_wp2_with fail
    refine (rsay_sl b bc told tWhat _ H2.out.drew.right.right.right.right (by omega) (by decide)).mono ?_
    rintro e w9 ⟨rfl,q9',h9⟩
    go_wp2
    first|go_end0|((try simp only [Exit.inBlock,Exit.then]);refine bodyPost_ret (results_none rfl _ _ _) rfl ?_)
    exact ⟨rfl,Q2.out.drew.trans q9',h9⟩
end Go.Proofs.YtfihmpkkpgmdhaaGreatDoor
