/-
  What the proof of DeskDoes leans on: definitions, laws, contracts of functions. No condition besides those that each theorem names.
-/
import Derived.Test.YtfihmpkkpgmdhaaGreatDoorZD33
import Derived.Test.YtfihmpkkpgmdhaaGreatDoorZD21
import Derived.Test.YtfihmpkkpgmdhaaGreatDoorZD24
import Derived.Test.YtfihmpkkpgmdhaaGreatDoorZD34
import Derived.Test.YtfihmpkkpgmdhaaGreatDoorZD37
import Derived.Test.YtfihmpkkpgmdhaaGreatDoorZD38
set_option maxRecDepth 100000
set_option maxHeartbeats 16000000
set_option linter.unusedVariables false
set_option linter.unusedSimpArgs false
set_option linter.unnecessarySimpa false
namespace Go.Proofs.YtfihmpkkpgmdhaaGreatDoor
open Go.RowKit
open List renaming setIfInBounds_toArray → zA, set_cons_zero → zB, set_cons_succ → zC
open Go.Act renaming put → zP
open Go.Lib renaming hid → zH
open Go.Value renaming int → zI
open Go.IntKind renaming i64 → zi
theorem rlN_asks (b bc:Nat) (told:List UInt8) (g:Gld) (s x:List UInt8) (r:List (List UInt8)) (n:List Int) (hw:words s=(x::r)) (hx:x≠tTear) (hm:numsOf r=some n) (T':List UInt8) (g':Gld) (hcase:(∃ n0:Int,(x=tHolders)∧(n=[n0])∧line (tHolders++nums (flat2 (holders (evs Tbl.zero (allB g.d.b)) n0)))=T'∧g=g')∨((x=tLog)∧(n=[])∧(logTxt (evs Tbl.zero (allB g.d.b))++line tEnd)=T'∧g=g')) (hg:g.Good) (w:World) {w0:World} {R:HP} (h:Holds w (rst b bc told*(chp bc g*(lay w0*R)))) (hs:s.length≤9000) (ht:told.length≤200000000) :
  Calls Tryz.prog 18 #[.pointer (some ⟨b,0,none⟩),.string (strOf s)] w fun e w'=>e=.returned (.tuple #[])∧Quiet w w'∧Holds w' (rst b bc (told++T')*(chp bc g'*(lay w0*R))):=by
 have HCASE:=zH hcase
 clear hcase
 have H0:=zH h;have HG:=zH hg
 have hb0:=bytes_no hx
 simp only [tTear] at hb0
 have hrl:r.length≤9000:=by
  have:=words_len s
  rw [hw] at this;simp only [List.length_cons] at this;omega
 have hrz:∀ y∈r,y.length≤9000:=fun y hy=>by
  have:=words_size s y (by rw [hw];simp [hy])
  omega
 have HRZ:=zH hrz;have HM:=zH hm;have HX:=zH hx
 have HML:=zH (numsOf_len hm)
 have hn0:¬ ((r.length:Int)+1)=0:=by omega
 have hn1:(((r.length:Int)+1)==0)=false:=by simpa using hn0
 have hp0:(0:Int)<(r.length:Int)+1:=by omega
 obtain ⟨i0,hi,hz0,hz1,hz2⟩:=info_parts Tryz.infoI64
 have HI:=zH hi;have HZ0:=zH hz0;have HZ1:=zH hz1;have HZ2:=zH hz2
 clear h hg hrz hm hx hi hz0 hz1 hz2
 go_enter Tryz.func18,Tryz.ntmps18
 go_wp2_with fail
 refine (rwords_sl s _ (by omega) H0.out).mono ?_
 rw [hw]
 rintro e w1 ⟨v1,rfl,q1,h1⟩
 obtain ⟨g1,c1,rfl,d1,d2⟩:=wds_cons h1
 obtain ⟨q4,hq4⟩:∃ q,w1.heap.size=q:=⟨_,rfl⟩
 obtain ⟨wa,hwa,HA,QA⟩:∃ wa,w1.alloc (.cells #[.slice (some ⟨g1,0,none⟩) (r.length+1) c1] 22)=wa∧Hid (Holds wa (bl q4 22 [.slice (some ⟨g1,0,none⟩) (r.length+1) c1]*(wds (.slice (some ⟨g1,0,none⟩) (r.length+1) c1) (x::r)*(rst b bc told*(chp bc g*(lay w0*R))))))∧Hid (Quiet w wa):=
  ⟨_,rfl,zH (h1.boxB (ty:=22) (cs:=[.slice (some ⟨g1,0,none⟩) (r.length+1) c1]) hq4),zH (q1.alloc _)⟩
 have y4:wa.cell? ⟨q4,0,none⟩=some (.slice (some ⟨g1,0,none⟩) (r.length+1) c1):=HA.out.bl.cell 0 _ rfl
 have y0:wa.cell? ⟨g1,0,none⟩=some (.string (strOf x)):=wds_cells HA.out.two 0 x rfl
 clear h1 q1 hw
 obtain ⟨q9,hq9⟩:∃ q,wa.heap.size=q:=⟨_,rfl⟩
 obtain ⟨wb,hwb,HB,QB⟩:∃ wb,wa.alloc (.cells #[.slice none 0 0] 70)=wb∧Hid (Holds wb (bl q9 70 [.slice none 0 0]*(bl q4 22 [.slice (some ⟨g1,0,none⟩) (r.length+1) c1]*(wds (.slice (some ⟨g1,0,none⟩) (r.length+1) c1) (x::r)*(rst b bc told*(chp bc g*(lay w0*R)))))))∧Hid (Quiet w wb):=
  ⟨_,rfl,zH (HA.out.boxB (ty:=70) (cs:=[.slice none 0 0]) hq9),zH (QA.out.alloc _)⟩
 go_wp2_with fail
 clear y4 y0 hwa hwb hq4 hq9 HA QA
 go_loopw [10] (fun vi wr=>∃ (j:Nat) (vn:Value),1≤j∧j≤r.length+1∧vi=zI zi j∧Holds wr (rw_ 3 1 vn (j-1) (ivs (n.take (j-1)))*(bl q9 70 [vn]*(bl q4 22 [(.slice (some ⟨g1,0,none⟩) (r.length+1) c1)]*(wds (.slice (some ⟨g1,0,none⟩) (r.length+1) c1) (x::r)*(rst b bc told*(chp bc g*(lay w0*R)))))))∧Quiet w wr) (fun vi _=>r.length+1-(intOf vi).toNat)
 case atStart=>exact ⟨1,_,by omega,by omega,rfl,HB.out.nilRow _ _,QB.out⟩
 case round=>
  obtain ⟨j,vn,hj1,hj2,rfl,hh,hq⟩:=hrel
  obtain ⟨wo,rfl⟩:∃ wo:World,wo=wr:=⟨_,rfl⟩
  obtain ⟨sa,sc,rfl,-,-⟩:=hh.row.shape
  have y4:wo.cell? ⟨q4,0,none⟩=some (.slice (some ⟨g1,0,none⟩) (r.length+1) c1):=hh.three.bl.cell 0 _ rfl
  have HH:=zH hh;have HQ:=zH hq
  clear hh hq
  by_cases hlt:j<r.length+1
  ·obtain ⟨y,hy⟩:∃ y,r[j-1]? = some y:=⟨_,List.getElem?_eq_getElem (by omega)⟩
   have hy1:(x::r)[0+j]? = some y:=by
    obtain ⟨k,rfl⟩:∃ k,j=k+1:=⟨j-1,by omega⟩
    simpa  using hy
   have yj:wo.cell? ⟨g1,j,none⟩=some (.string (strOf y)):=wds_cells HH.out.four j y (by simpa using hy1)
   obtain ⟨m,hm1,hm2⟩:=numsOf_at HM.out hy
   have hyl:=HRZ.out y (List.mem_of_getElem? hy)
   have hmb:=numOf_bound hm2
   rcases numOf_cases y with ⟨m',ha,hya,hb⟩|⟨_,_,_,hb⟩|⟨_,hb⟩
   rotate_left
   ·rw [hb] at hm2;cases hm2
   ·rw [hb] at hm2;cases hm2
   obtain rfl:m'=m:=Option.some.inj (hb.symm.trans hm2)
   have hla:Laid wo:=lay_laid (HH.out.eq (by ac_rfl:_=lay w0*(rw_ 3 1 (.slice sa (j-1) sc) (j-1) (ivs (n.take (j-1)))*(bl q9 70 [.slice sa (j-1) sc]*(bl q4 22 [(.slice (some ⟨g1,0,none⟩) (r.length+1) c1)]*(wds (.slice (some ⟨g1,0,none⟩) (r.length+1) c1) (x::r)*(rst b bc told*(chp bc g*R))))))))
   have hst:=ivs_take n (j-1) m' hm1
   have hlt':(j:Int)<(r.length:Int)+1:=by omega
   have HLA:=zH hla;have HST:=zH hst;have HAT:=zH ha;have HYL:=zH hyl;have HYA:=zH hya;have HY1:=zH hy1
   clear hla hst ha hy hy1 hm1 hm2 hb hyl hya
   go_wp2_with fail
   refine (atoi_ok _ m' _ (by have:=HYL.out;omega) HAT.out).mono ?_
   rintro e w2 ⟨rfl,b2⟩
   have H2:=zH (HH.out.below b2);have Q2:=zH (HQ.out.trans (Quiet.below b2));have L2:=zH (HLA.out.below b2)
   clear b2 y4 yj
   have z4:w2.cell? ⟨q4,0,none⟩=some (.slice (some ⟨g1,0,none⟩) (r.length+1) c1):=H2.out.three.bl.cell 0 _ rfl
   have zj:w2.cell? ⟨g1,j,none⟩=some (.string (strOf y)):=wds_cells H2.out.four j y (by simpa using HY1.out)
   go_wp2_with fail
   have hyy:((strOf (Lib.itoa m')).toList==(strOf y).toList)=true:=by rw [HYA.out];simp
   refine wp_region_lex (fun W=>W.cell? ⟨q4,0,none⟩=some (.slice (some ⟨g1,0,none⟩) (r.length+1) c1)∧W.cell? ⟨g1,j,none⟩=some (.string (strOf y))) [4] (by kernel_rfl) (by kernel_rfl) ⟨z4,zj⟩ ?_
   repeat (first|(refine LexL.none (by rfl) ?_;(try simp only [zP,zA,zB,zC]))|(refine LexL.still (v:=?_) (by rfl) ?_ ?_;rotate_left;(focus (intro W hW;(try dsimp only at hW);go_simp;(try (with_reducible rfl));done));(try simp only [zP,zA,zB,zC])))
   refine LexL.call (f:=32) (args:=#[zI zi m']) (w1:=w2.drew) (by rfl) (by decide) (by go_simp) ?_
   refine (rnum_sl m' _ L2.out.drew hmb).mono ?_
   rintro e w3 ⟨rfl,b3⟩
   have H3:=zH (H2.out.drew.below b3);have Q3:=zH (Q2.out.drew.trans (Quiet.below b3))
   clear b3 z4 zj
   have z4:w3.cell? ⟨q4,0,none⟩=some (.slice (some ⟨g1,0,none⟩) (r.length+1) c1):=H3.out.three.bl.cell 0 _ rfl
   have zj:w3.cell? ⟨g1,j,none⟩=some (.string (strOf y)):=wds_cells H3.out.four j y (by simpa using HY1.out)
   refine ⟨_,rfl,⟨z4,zj⟩,?_⟩
   try simp only [zP,zA,zB,zC]
   repeat (first|(refine LexL.none (by rfl) ?_;(try simp only [zP,zA,zB,zC]))|(refine LexL.still (v:=?_) (by rfl) ?_ ?_;rotate_left;(focus (intro W hW;(try dsimp only at hW);go_simp;(try (with_reducible rfl));done));(try simp only [zP,zA,zB,zC])))
   refine LexL.done ?_
   have z9:w3.cell? ⟨q9,0,none⟩=some (.slice sa (j-1) sc):=H3.out.two.bl.cell 0 _ rfl
   have H4:=zH (H3.out.alloc (.cells #[zI zi m'] 3))
   go_wp2_with (at_builtin;refine wpList_append_sl (n:=j-1) (m:=1) rfl _ _ 70 rfl 3 i0 _ 1 8 Tryz.underlying70 HI.out HZ0.out HZ1.out HZ2.out rfl (by decide) rfl rfl H4.out (ivs_row (l:=[m']) rfl (by simp) _ rfl _) rfl (ivs_ones [m']) (by omega) (by omega) ?_;intro v' w5 h5 q5;obtain ⟨va,vc,rfl,-,-⟩:=h5.row.shape;have H5:=zH h5;have Q5:=zH q5;have z5:w5.cell? ⟨q9,0,none⟩=some (.slice sa (j-1) sc):=h5.two.bl.cell 0 _ rfl;have f5:=h5.two.bl.free 0;clear h5 q5)
   go_roundw
   case rel=>exact ⟨j+1,.slice va j vc,by omega,by omega,by go_num,by rw [show j+1-1=j-1+1 by omega,←HST.out];exact (show Holds _ (rw_ 3 1 (.slice va j vc) (j-1+1) _*(bl q9 70 [.slice va j vc]*_)) from (by omega:j-1+1=j)▸(H5.out.two.setB 0 (.slice va (j-1+1) vc)).two),(Q3.out.trans (((Quiet.refl _).alloc _).trans Q5.out)).setCell _ _⟩
   case measure=>simp [intOf];omega
  ·obtain rfl:j=r.length+1:=by omega
   have hln:=HML.out
   have hnt:n.take (r.length+1-1)=n:=List.take_of_length_le (by omega)
   have hge:¬ (((r.length+1:Nat):Int)<(r.length:Int)+1):=by omega
   have hh2:Holds wo (inum (.slice sa n.length sc) n*(bl q9 70 [.slice sa n.length sc]*(bl q4 22 [(.slice (some ⟨g1,0,none⟩) (r.length+1) c1)]*(wds (.slice (some ⟨g1,0,none⟩) (r.length+1) c1) (x::r)*(rst b bc told*(chp bc g*(lay w0*R))))))):=by
    have:=HH.out
    rw [hnt,show r.length+1-1=n.length by omega] at this
    exact this
   have hsl:(.slice sa (r.length+1-1) sc:Value)=.slice sa n.length sc:=by rw [show r.length+1-1=n.length by omega]
   obtain ⟨q14,hq14⟩:∃ q,wo.heap.size=q:=⟨_,rfl⟩
   obtain ⟨wd,hwd,HD,QD⟩:∃ wd,wo.alloc (.cells #[zI zi 0,zI zi 0,zI zi 0,zI zi 0,zI zi 0,zI zi 0,zI zi 0,zI zi 0,zI zi 0] 86)=wd∧Hid (Holds wd (bl q14 86 (zstep 0)*(inum (.slice sa n.length sc) n*(bl q9 70 [.slice sa n.length sc]*(bl q4 22 [(.slice (some ⟨g1,0,none⟩) (r.length+1) c1)]*(wds (.slice (some ⟨g1,0,none⟩) (r.length+1) c1) (x::r)*(rst b bc told*(chp bc g*(lay w0*R)))))))))∧Hid (Quiet w wd):=
    ⟨_,rfl,zH (hh2.boxB (ty:=86) (cs:=zstep 0) hq14),zH (HQ.out.alloc _)⟩
   clear hh2 hnt hln hlt HH HQ hsl
   go_wp2_with (first|(refine wpList_built rfl 86 _ rfl (zstep 0) (by kernel_rfl) ?_)|(refine wpList_store_whole rfl 86 _ _ rfl q14 (zstep 0) rfl rfl HD.out.bl rfl (by kernel_rfl) (by simp [Ones,zstep,Value.oneCell']) ?_;intro we h1' h2' h3';have HE:=zH (HD.out.grown h2' h1');have QE:=zH (QD.out.trans (Quiet.grown h2'));have c4:we.cell? ⟨q4,0,none⟩=some (.slice (some ⟨g1,0,none⟩) (r.length+1) c1):=HE.out.four.bl.cell 0 _ rfl;have c9:we.cell? ⟨q9,0,none⟩=some (.slice sa n.length sc):=HE.out.three.bl.cell 0 _ rfl;have xx:we.cell? ⟨g1,0,none⟩=some (.string (strOf x)):=wds_cells (HE.out.eq (by ac_rfl:_=wds (.slice (some ⟨g1,0,none⟩) (r.length+1) c1) (x::r)*(bl q14 86 (zstep 0)*(inum (.slice sa n.length sc) n*(bl q9 70 [.slice sa n.length sc]*(bl q4 22 [(.slice (some ⟨g1,0,none⟩) (r.length+1) c1)]*(rst b bc told*(chp bc g*(lay w0*R))))))))) 0 x rfl;have x0:=HE.out.bl.cell 0 _ rfl;clear h1' h2' h3' hwd hq14 y4))
   rcases HCASE.out with ⟨n0,hxe,hne,rfl,rfl⟩|⟨hxe,hne,rfl,rfl⟩
   all_goals clear HCASE
   ·have HXE:=zH hxe;have HNE:=zH hne
    clear hxe hne
    have een:inum (.slice sa n.length sc) n=inum (.slice sa n.length sc) [n0]:=by rw [HNE.out]
    have HEn:=zH (HE.out.two.imp (B:=inum (.slice sa n.length sc) [n0]) (fun F h=>by rw [←een];exact h))
    clear een
    obtain ⟨gn,cn,en,dn1,dn2⟩:=inum_cons HEn.out
    simp only [Value.slice.injEq] at en
    obtain ⟨rfl,hnl,rfl⟩:=en
    clear hnl HEn
    have m0:we.cell? ⟨gn,0,none⟩=some (zI zi n0):=inum_cell HE.out.two 0 _ (by rw [HNE.out];rfl)
    have bn0:(0:Int)<(n.length:Int):=by rw [HNE.out];simp
    refine (ris_sl q4 q9 g1 0 (r.length+1) c1 n.length _ _ x tAdd 2 _ c4 (Nat.succ_pos _) xx c9).mono ?_
    rw [tst tAdd 2 HXE HNE (rfl:_=false)]
    rintro e we' ⟨rfl,rfl⟩
    obtain ⟨we,rfl⟩:∃ we:World,we=we':=⟨_,rfl⟩
    go_wp2_with fail
    refine (ris_sl q4 q9 g1 0 (r.length+1) c1 n.length _ _ x tTake 3 _ c4 (Nat.succ_pos _) xx c9).mono ?_
    rw [tst tTake 3 HXE HNE (rfl:_=false)]
    rintro e we' ⟨rfl,rfl⟩
    obtain ⟨we,rfl⟩:∃ we:World,we=we':=⟨_,rfl⟩
    go_wp2_with fail
    refine (ris_sl q4 q9 g1 0 (r.length+1) c1 n.length _ _ x tRenew 5 _ c4 (Nat.succ_pos _) xx c9).mono ?_
    rw [tst tRenew 5 HXE HNE (rfl:_=false)]
    rintro e we' ⟨rfl,rfl⟩
    obtain ⟨we,rfl⟩:∃ we:World,we=we':=⟨_,rfl⟩
    go_wp2_with fail
    refine (ris_sl q4 q9 g1 0 (r.length+1) c1 n.length _ _ x tDone 4 _ c4 (Nat.succ_pos _) xx c9).mono ?_
    rw [tst tDone 4 HXE HNE (rfl:_=false)]
    rintro e we' ⟨rfl,rfl⟩
    obtain ⟨we,rfl⟩:∃ we:World,we=we':=⟨_,rfl⟩
    go_wp2_with fail
    refine (ris_sl q4 q9 g1 0 (r.length+1) c1 n.length _ _ x tDrop 4 _ c4 (Nat.succ_pos _) xx c9).mono ?_
    rw [tst tDrop 4 HXE HNE (rfl:_=false)]
    rintro e we' ⟨rfl,rfl⟩
    obtain ⟨we,rfl⟩:∃ we:World,we=we':=⟨_,rfl⟩
    go_wp2_with fail
    refine (ris_sl q4 q9 g1 0 (r.length+1) c1 n.length _ _ x tOpen 1 _ c4 (Nat.succ_pos _) xx c9).mono ?_
    rw [tst tOpen 1 HXE HNE (rfl:_=false)]
    rintro e we' ⟨rfl,rfl⟩
    obtain ⟨we,rfl⟩:∃ we:World,we=we':=⟨_,rfl⟩
    go_wp2_with fail
    refine (ris_sl q4 q9 g1 0 (r.length+1) c1 n.length _ _ x tDown 1 _ c4 (Nat.succ_pos _) xx c9).mono ?_
    rw [tst tDown 1 HXE HNE (rfl:_=false)]
    rintro e we' ⟨rfl,rfl⟩
    obtain ⟨we,rfl⟩:∃ we:World,we=we':=⟨_,rfl⟩
    go_wp2_with fail
    refine (ris_sl q4 q9 g1 0 (r.length+1) c1 n.length _ _ x tTick 1 _ c4 (Nat.succ_pos _) xx c9).mono ?_
    rw [tst tTick 1 HXE HNE (rfl:_=false)]
    rintro e we' ⟨rfl,rfl⟩
    obtain ⟨we,rfl⟩:∃ we:World,we=we':=⟨_,rfl⟩
    go_wp2_with fail
    refine (ris_sl q4 q9 g1 0 (r.length+1) c1 n.length _ _ x tJob 2 _ c4 (Nat.succ_pos _) xx c9).mono ?_
    rw [tst tJob 2 HXE HNE (rfl:_=false)]
    rintro e we' ⟨rfl,rfl⟩
    obtain ⟨we,rfl⟩:∃ we:World,we=we':=⟨_,rfl⟩
    go_wp2_with fail
    refine (ris_sl q4 q9 g1 0 (r.length+1) c1 n.length _ _ x tDisk 0 _ c4 (Nat.succ_pos _) xx c9).mono ?_
    rw [tst tDisk 0 HXE HNE (rfl:_=false)]
    rintro e we' ⟨rfl,rfl⟩
    obtain ⟨we,rfl⟩:∃ we:World,we=we':=⟨_,rfl⟩
    go_wp2_with fail
    refine (ris_sl q4 q9 g1 0 (r.length+1) c1 n.length _ _ x tLog 0 _ c4 (Nat.succ_pos _) xx c9).mono ?_
    rw [tst tLog 0 HXE HNE (rfl:_=false)]
    rintro e we' ⟨rfl,rfl⟩
    obtain ⟨we,rfl⟩:∃ we:World,we=we':=⟨_,rfl⟩
    go_wp2_with fail
    refine (ris_sl q4 q9 g1 0 (r.length+1) c1 n.length _ _ x tHolders 1 _ c4 (Nat.succ_pos _) xx c9).mono ?_
    rw [tst tHolders 1 HXE HNE (rfl:_=true)]
    rintro e we' ⟨rfl,rfl⟩
    obtain ⟨we,rfl⟩:∃ we:World,we=we':=⟨_,rfl⟩
    go_wp2_with fail
    obtain ⟨vs,vb,hop⟩:=chp_openF (HE.out.eq (by ac_rfl:_=chp bc g*(rst b bc told*(lay w0*(inum (.slice (some ⟨gn,0,none⟩) n.length sc) n*(bl q9 70 [.slice (some ⟨gn,0,none⟩) n.length sc]*(bl q14 86 (zstep 0)*(bl q4 22 [(.slice (some ⟨g1,0,none⟩) (r.length+1) c1)]*(wds (.slice (some ⟨g1,0,none⟩) (r.length+1) c1) (x::r)*R)))))))))
    obtain ⟨ba,bcap,rfl,-,-⟩:=hop.two.ownb.bytes.shape
    obtain ⟨RJ,hRJ⟩:∃ RJ:HP,bl q14 86 (zstep 0)*(bl q4 22 [(.slice (some ⟨g1,0,none⟩) (r.length+1) c1)]*(wds (.slice (some ⟨g1,0,none⟩) (r.length+1) c1) (x::r)*R))=RJ:=⟨_,rfl⟩
    rw [hRJ] at hop
    have HRJ:=zH hRJ
    have HF:=zH (hop.eq (by ac_rfl:_=bl bc 53 [zI zi g.d.ep,.slice ba g.d.b.length bcap,vs 0,vs 1,vs 2,zI zi g.now]*(rst b bc told*(lay w0*(inum (.slice (some ⟨gn,0,none⟩) n.length sc) n*(bl q9 70 [.slice (some ⟨gn,0,none⟩) n.length sc]*(ownb (.slice ba g.d.b.length bcap) g.d.b*(vergs3 bc vs g.f*RJ))))))))
    clear hop hRJ c4 xx x0
    have hgd:g.d.Ok:=by
     obtain ⟨lg,hlg⟩:=HG.out
     exact hlg.fam.ok
    have hnow:0≤g.now∧g.now≤60000:=by
     obtain ⟨lg,hlg⟩:=HG.out
     exact hlg.now
    have HGD:=zH hgd;have HNW:=zH hnow
    clear hgd hnow
    have mkS:∀ (W:World) (td:List UInt8) (A B:HP),Holds W (A*(inum (.slice (some ⟨gn,0,none⟩) n.length sc) n*(bl q9 70 [.slice (some ⟨gn,0,none⟩) n.length sc]*(bl bc 53 [zI zi g.d.ep,.slice ba g.d.b.length bcap,vs 0,vs 1,vs 2,zI zi g.now]*(rst b bc td*B)))))→W.cell? ⟨q9,0,none⟩=some (.slice (some ⟨gn,0,none⟩) n.length sc)∧W.cell? ⟨gn,0,none⟩=some (zI zi n0)∧W.cell? ⟨b,1,none⟩=some (.pointer (some ⟨bc,0,none⟩))∧W.cell? ⟨bc,0,none⟩=some (zI zi g.d.ep)∧W.cell? ⟨bc,1,none⟩=some (.slice ba g.d.b.length bcap)∧W.cell? ⟨bc,5,none⟩=some (zI zi g.now):=fun W td A B h=>⟨h.three.bl.cell 0 _ rfl,inum_cell h.two 0 _ (by rw [HNE.out];rfl),(show Holds W (bl b 55 _*_) from h.right.right.right.two).bl.cell 1 _ rfl,h.four.bl.cell 0 _ rfl,h.four.bl.cell 1 _ rfl,h.four.bl.cell 5 _ rfl⟩
    have MKS:=zH mkS;clear mkS
    have hE:=disk_evs g.d.b
    have hEL:=disk_evs_len HGD.out.b
    obtain ⟨E,hEe⟩:∃ E,evs Tbl.zero (allB g.d.b)=E:=⟨_,rfl⟩
    rw [hEe] at hE hEL
    obtain ⟨hs',hhs⟩:∃ hs',holders E n0=hs':=⟨_,rfl⟩
    have hH:=holders_small hE n0
    have hHL:=holders_len E n0
    rw [hhs] at hH hHL
    have hfs:=flat2_small hH
    have hfl:=flat2_len hs'
    have hnl:=nums_len hfs
    have HEE:=zH hEe;have HHS:=zH hhs;have HFS:=zH hfs
    clear hE hH hEe hhs hfs
    have HD:=zH (HF.out.drew.eq (by ac_rfl:_=lay w0*(inum (.slice (some ⟨gn,0,none⟩) n.length sc) n*(bl q9 70 [.slice (some ⟨gn,0,none⟩) n.length sc]*(bl bc 53 [zI zi g.d.ep,.slice ba g.d.b.length bcap,vs 0,vs 1,vs 2,zI zi g.now]*(rst b bc told*(ownb (.slice ba g.d.b.length bcap) g.d.b*(vergs3 bc vs g.f*RJ))))))))
    have QD:=zH QE.out.drew
    have bz0:0<n.length:=by omega
    clear c9
    refine wp_region_lex (fun W=>W.cell? ⟨q9,0,none⟩=some (.slice (some ⟨gn,0,none⟩) n.length sc)∧W.cell? ⟨gn,0,none⟩=some (zI zi n0)∧W.cell? ⟨b,1,none⟩=some (.pointer (some ⟨bc,0,none⟩))∧W.cell? ⟨bc,0,none⟩=some (zI zi g.d.ep)∧W.cell? ⟨bc,1,none⟩=some (.slice ba g.d.b.length bcap)∧W.cell? ⟨bc,5,none⟩=some (zI zi g.now)) [9,13,14,15] (by kernel_rfl) (by kernel_rfl) (MKS.out _ _ _ _ HD.out) ?_
    repeat (first|(refine LexL.none (by rfl) ?_;(try simp only [zP,zA,zB,zC]))|(refine LexL.still (v:=?_) (by rfl) ?_ ?_;rotate_left;(focus (intro W hW;(try dsimp only at hW);go_simp;(try (with_reducible rfl));done));(try simp only [zP,zA,zB,zC])))
    refine LexL.call (f:=37) (args:=#[.slice ba g.d.b.length bcap]) (w1:=we.drew) (by rfl) (by decide) (by go_simp) ?_
    refine (eventsOf_sl _ g.d.b _ (HD.out.eq (by ac_rfl:_=ownb (.slice ba g.d.b.length bcap) g.d.b*(lay w0*(inum (.slice (some ⟨gn,0,none⟩) n.length sc) n*(bl q9 70 [.slice (some ⟨gn,0,none⟩) n.length sc]*(bl bc 53 [zI zi g.d.ep,.slice ba g.d.b.length bcap,vs 0,vs 1,vs 2,zI zi g.now]*(rst b bc told*(vergs3 bc vs g.f*RJ)))))))).ownb.bytes (by have:=HGD.out.b;omega) HD.out).mono ?_
    rw [HEE.out]
    rintro e W3 ⟨ve,rfl,q3',h3⟩
    replace h3:Holds W3 (revs ve E*(lay w0*(inum (.slice (some ⟨gn,0,none⟩) n.length sc) n*(bl q9 70 [.slice (some ⟨gn,0,none⟩) n.length sc]*(bl bc 53 [zI zi g.d.ep,.slice ba g.d.b.length bcap,vs 0,vs 1,vs 2,zI zi g.now]*(rst b bc told*(ownb (.slice ba g.d.b.length bcap) g.d.b*(vergs3 bc vs g.f*RJ)))))))):=h3
    have H3:=zH h3;have Q3:=zH (QD.out.trans q3')
    clear h3 q3'
    refine ⟨_,rfl,MKS.out W3 told (revs ve E*lay w0) (ownb (.slice ba g.d.b.length bcap) g.d.b*(vergs3 bc vs g.f*RJ)) (H3.out.eq (by ac_rfl)),?_⟩
    try simp only [zP,zA,zB,zC]
    repeat (first|(refine LexL.none (by rfl) ?_;(try simp only [zP,zA,zB,zC]))|(refine LexL.still (v:=?_) (by rfl) ?_ ?_;rotate_left;(focus (intro W hW;(try dsimp only at hW);go_simp;(try (with_reducible rfl));done));(try simp only [zP,zA,zB,zC])))
    refine LexL.call (f:=38) (args:=#[ve,zI zi n0]) (w1:=W3) (by rfl) (by decide) (by go_simp) ?_
    refine (holdersOf_sl ve E n0 _ H3.out.row (by omega) H3.out.right).mono ?_
    rw [HHS.out]
    rintro e W4 ⟨vh,rfl,q4',h4⟩
    replace h4:Holds W4 (hint vh hs'*(lay w0*(inum (.slice (some ⟨gn,0,none⟩) n.length sc) n*(bl q9 70 [.slice (some ⟨gn,0,none⟩) n.length sc]*(bl bc 53 [zI zi g.d.ep,.slice ba g.d.b.length bcap,vs 0,vs 1,vs 2,zI zi g.now]*(rst b bc told*(ownb (.slice ba g.d.b.length bcap) g.d.b*(vergs3 bc vs g.f*RJ)))))))):=h4
    have H4:=zH h4;have Q4:=zH (Q3.out.trans q4')
    have hrow:RowAt W4 vh (flat2 hs').length (ivs (flat2 hs')):=by
     have:=h4.row
     rw [hvs_flat2,←flat2_len] at this
     exact this
    have HROW:=zH hrow
    clear h4 q4' hrow
    refine ⟨_,rfl,MKS.out W4 told (hint vh hs'*lay w0) (ownb (.slice ba g.d.b.length bcap) g.d.b*(vergs3 bc vs g.f*RJ)) (H4.out.eq (by ac_rfl)),?_⟩
    try simp only [zP,zA,zB,zC]
    refine LexL.call (f:=35) (args:=#[.string (strOf tHolders),vh]) (w1:=W4) (by rfl) (by decide) (by go_simp;rfl) ?_
    refine (rlist_sl tHolders _ (flat2 hs') _ (by decide) (lay_laid H4.out.right) HROW.out (by omega) (sms_i64 HFS.out)).mono ?_
    rintro e W5 ⟨rfl,hb5⟩
    have H5:=zH (H4.out.right.below hb5);have Q5:=zH (Q4.out.trans (Quiet.below hb5))
    clear hb5
    refine ⟨_,rfl,MKS.out _ _ _ _ H5.out,?_⟩
    try simp only [zP,zA,zB,zC]
    refine LexL.call (f:=30) (args:=#[.pointer (some ⟨b,0,none⟩),.string (strOf (tHolders++nums (flat2 hs')))]) (w1:=W5) (by rfl) (by decide) (by go_simp) ?_
    refine (rsay_sl b bc told (tHolders++nums (flat2 hs')) _ (H5.out.eq (by ac_rfl:_=rst b bc told*(lay w0*(inum (.slice (some ⟨gn,0,none⟩) n.length sc) n*(bl q9 70 [.slice (some ⟨gn,0,none⟩) n.length sc]*(bl bc 53 [zI zi g.d.ep,.slice ba g.d.b.length bcap,vs 0,vs 1,vs 2,zI zi g.now]*(ownb (.slice ba g.d.b.length bcap) g.d.b*(vergs3 bc vs g.f*RJ)))))))) (by omega) (by simp only [List.length_append,tHolders,List.length_cons,List.length_nil];omega)).mono ?_
    rintro e W6 ⟨rfl,q6',h6⟩
    have H6:=zH (h6.eq (by ac_rfl:_=lay w0*(inum (.slice (some ⟨gn,0,none⟩) n.length sc) n*(bl q9 70 [.slice (some ⟨gn,0,none⟩) n.length sc]*(bl bc 53 [zI zi g.d.ep,.slice ba g.d.b.length bcap,vs 0,vs 1,vs 2,zI zi g.now]*(rst b bc (told++line (tHolders++nums (flat2 hs')))*(ownb (.slice ba g.d.b.length bcap) g.d.b*(vergs3 bc vs g.f*RJ))))))));have Q6:=zH (Q5.out.trans q6')
    clear h6 q6'
    refine ⟨_,rfl,MKS.out _ _ _ _ H6.out,?_⟩
    try simp only [zP,zA,zB,zC]
    refine LexL.done ?_
    go_wp2
    first|go_end0|((try simp only [Exit.inBlock,Exit.then]);refine bodyPost_ret (results_none rfl _ _ _) rfl ?_)
    rw [HEE.out,HHS.out]
    have hz:=(H6.out.eq (by ac_rfl:_=bl bc 53 [zI zi g.d.ep,.slice ba g.d.b.length bcap,vs 0,vs 1,vs 2,zI zi g.now]*(ownb (.slice ba g.d.b.length bcap) g.d.b*(vergs3 bc vs g.f*(rst b bc (told++line (tHolders++nums (flat2 hs')))*(lay w0*(inum (.slice (some ⟨gn,0,none⟩) n.length sc) n*(bl q9 70 [.slice (some ⟨gn,0,none⟩) n.length sc]*RJ))))))))
    have hy:=chp_closeF hz
    rw [←HRJ.out] at hy
    have hx:=hy.eq (by ac_rfl:_=inum (.slice (some ⟨gn,0,none⟩) n.length sc) n*(bl q9 70 [.slice (some ⟨gn,0,none⟩) n.length sc]*(bl q14 86 (zstep 0)*(bl q4 22 [(.slice (some ⟨g1,0,none⟩) (r.length+1) c1)]*wds (.slice (some ⟨g1,0,none⟩) (r.length+1) c1) (x::r))))*(rst b bc (told++line (tHolders++nums (flat2 hs')))*(chp bc g*(lay w0*R))))
    exact ⟨rfl,Q6.out,hx.right⟩
   ·have HXE:=zH hxe;have HNE:=zH hne
    clear hxe hne
    refine (ris_sl q4 q9 g1 0 (r.length+1) c1 n.length _ _ x tAdd 2 _ c4 (Nat.succ_pos _) xx c9).mono ?_
    rw [tst tAdd 2 HXE HNE (rfl:_=false)]
    rintro e we' ⟨rfl,rfl⟩
    obtain ⟨we,rfl⟩:∃ we:World,we=we':=⟨_,rfl⟩
    go_wp2_with fail
    refine (ris_sl q4 q9 g1 0 (r.length+1) c1 n.length _ _ x tTake 3 _ c4 (Nat.succ_pos _) xx c9).mono ?_
    rw [tst tTake 3 HXE HNE (rfl:_=false)]
    rintro e we' ⟨rfl,rfl⟩
    obtain ⟨we,rfl⟩:∃ we:World,we=we':=⟨_,rfl⟩
    go_wp2_with fail
    refine (ris_sl q4 q9 g1 0 (r.length+1) c1 n.length _ _ x tRenew 5 _ c4 (Nat.succ_pos _) xx c9).mono ?_
    rw [tst tRenew 5 HXE HNE (rfl:_=false)]
    rintro e we' ⟨rfl,rfl⟩
    obtain ⟨we,rfl⟩:∃ we:World,we=we':=⟨_,rfl⟩
    go_wp2_with fail
    refine (ris_sl q4 q9 g1 0 (r.length+1) c1 n.length _ _ x tDone 4 _ c4 (Nat.succ_pos _) xx c9).mono ?_
    rw [tst tDone 4 HXE HNE (rfl:_=false)]
    rintro e we' ⟨rfl,rfl⟩
    obtain ⟨we,rfl⟩:∃ we:World,we=we':=⟨_,rfl⟩
    go_wp2_with fail
    refine (ris_sl q4 q9 g1 0 (r.length+1) c1 n.length _ _ x tDrop 4 _ c4 (Nat.succ_pos _) xx c9).mono ?_
    rw [tst tDrop 4 HXE HNE (rfl:_=false)]
    rintro e we' ⟨rfl,rfl⟩
    obtain ⟨we,rfl⟩:∃ we:World,we=we':=⟨_,rfl⟩
    go_wp2_with fail
    refine (ris_sl q4 q9 g1 0 (r.length+1) c1 n.length _ _ x tOpen 1 _ c4 (Nat.succ_pos _) xx c9).mono ?_
    rw [tst tOpen 1 HXE HNE (rfl:_=false)]
    rintro e we' ⟨rfl,rfl⟩
    obtain ⟨we,rfl⟩:∃ we:World,we=we':=⟨_,rfl⟩
    go_wp2_with fail
    refine (ris_sl q4 q9 g1 0 (r.length+1) c1 n.length _ _ x tDown 1 _ c4 (Nat.succ_pos _) xx c9).mono ?_
    rw [tst tDown 1 HXE HNE (rfl:_=false)]
    rintro e we' ⟨rfl,rfl⟩
    obtain ⟨we,rfl⟩:∃ we:World,we=we':=⟨_,rfl⟩
    go_wp2_with fail
    refine (ris_sl q4 q9 g1 0 (r.length+1) c1 n.length _ _ x tTick 1 _ c4 (Nat.succ_pos _) xx c9).mono ?_
    rw [tst tTick 1 HXE HNE (rfl:_=false)]
    rintro e we' ⟨rfl,rfl⟩
    obtain ⟨we,rfl⟩:∃ we:World,we=we':=⟨_,rfl⟩
    go_wp2_with fail
    refine (ris_sl q4 q9 g1 0 (r.length+1) c1 n.length _ _ x tJob 2 _ c4 (Nat.succ_pos _) xx c9).mono ?_
    rw [tst tJob 2 HXE HNE (rfl:_=false)]
    rintro e we' ⟨rfl,rfl⟩
    obtain ⟨we,rfl⟩:∃ we:World,we=we':=⟨_,rfl⟩
    go_wp2_with fail
    refine (ris_sl q4 q9 g1 0 (r.length+1) c1 n.length _ _ x tDisk 0 _ c4 (Nat.succ_pos _) xx c9).mono ?_
    rw [tst tDisk 0 HXE HNE (rfl:_=false)]
    rintro e we' ⟨rfl,rfl⟩
    obtain ⟨we,rfl⟩:∃ we:World,we=we':=⟨_,rfl⟩
    go_wp2_with fail
    refine (ris_sl q4 q9 g1 0 (r.length+1) c1 n.length _ _ x tLog 0 _ c4 (Nat.succ_pos _) xx c9).mono ?_
    rw [tst tLog 0 HXE HNE (rfl:_=true)]
    rintro e we' ⟨rfl,rfl⟩
    obtain ⟨we,rfl⟩:∃ we:World,we=we':=⟨_,rfl⟩
    obtain ⟨vs,vb,hop⟩:=chp_openF (HE.out.eq (by ac_rfl:_=chp bc g*(rst b bc told*(lay w0*(inum (.slice sa n.length sc) n*(bl q9 70 [.slice sa n.length sc]*(bl q14 86 (zstep 0)*(bl q4 22 [(.slice (some ⟨g1,0,none⟩) (r.length+1) c1)]*(wds (.slice (some ⟨g1,0,none⟩) (r.length+1) c1) (x::r)*R)))))))))
    obtain ⟨ba,bcap,rfl,-,-⟩:=hop.two.ownb.bytes.shape
    obtain ⟨RJ,hRJ⟩:∃ RJ:HP,bl q14 86 (zstep 0)*(bl q4 22 [(.slice (some ⟨g1,0,none⟩) (r.length+1) c1)]*(wds (.slice (some ⟨g1,0,none⟩) (r.length+1) c1) (x::r)*R))=RJ:=⟨_,rfl⟩
    rw [hRJ] at hop
    have HRJ:=zH hRJ
    have HF:=zH (hop.eq (by ac_rfl:_=bl bc 53 [zI zi g.d.ep,.slice ba g.d.b.length bcap,vs 0,vs 1,vs 2,zI zi g.now]*(rst b bc told*(lay w0*(inum (.slice sa n.length sc) n*(bl q9 70 [.slice sa n.length sc]*(ownb (.slice ba g.d.b.length bcap) g.d.b*(vergs3 bc vs g.f*RJ))))))))
    clear hop hRJ c4 xx x0
    have hgd:g.d.Ok:=by
     obtain ⟨lg,hlg⟩:=HG.out
     exact hlg.fam.ok
    have hnow:0≤g.now∧g.now≤60000:=by
     obtain ⟨lg,hlg⟩:=HG.out
     exact hlg.now
    have HGD:=zH hgd;have HNW:=zH hnow
    clear hgd hnow
    have hb1:we.cell? ⟨b,1,none⟩=some (.pointer (some ⟨bc,0,none⟩)):=(show Holds we (bl b 55 _*_) from HF.out.two).bl.cell 1 _ rfl
    have hc1:=HF.out.bl.cell 1 _ rfl
    have hE:=disk_evs g.d.b
    have hEL:=disk_evs_len HGD.out.b
    obtain ⟨E,hEe⟩:∃ E,evs Tbl.zero (allB g.d.b)=E:=⟨_,rfl⟩
    rw [hEe] at hE hEL
    have HES:=zH hE;have HEE:=zH hEe
    clear hE hEe
    go_wp2_with fail
    refine (eventsOf_sl _ g.d.b _ (HF.out.eq (by ac_rfl:_=ownb (.slice ba g.d.b.length bcap) g.d.b*(lay w0*(inum (.slice sa n.length sc) n*(bl q9 70 [.slice sa n.length sc]*(bl bc 53 [zI zi g.d.ep,.slice ba g.d.b.length bcap,vs 0,vs 1,vs 2,zI zi g.now]*(rst b bc told*(vergs3 bc vs g.f*RJ)))))))).ownb.bytes (by have:=HGD.out.b;omega) HF.out).mono ?_
    rw [HEE.out]
    rintro e W3 ⟨ve,rfl,q3',h3⟩
    obtain ⟨ea,ec,rfl,-,-⟩:=(show Holds W3 (revs ve E*_) from h3).row.shape
    have H3:=zH ((show Holds W3 (revs (.slice ea E.length ec) E*_) from h3).eq (by ac_rfl:_=rst b bc told*(revs (.slice ea E.length ec) E*(bl bc 53 [zI zi g.d.ep,.slice ba g.d.b.length bcap,vs 0,vs 1,vs 2,zI zi g.now]*(lay w0*(inum (.slice sa n.length sc) n*(bl q9 70 [.slice sa n.length sc]*(ownb (.slice ba g.d.b.length bcap) g.d.b*(vergs3 bc vs g.f*RJ)))))))));have Q3:=zH (QE.out.trans q3')
    clear h3 q3' hb1 hc1
    go_wp2_with fail
    go_loopw [19] (fun i wr=>∃ k:Nat,k≤E.length∧i=zI zi k∧Holds wr (rst b bc (told++logTxt (E.take k))*(revs (.slice ea E.length ec) E*(bl bc 53 [zI zi g.d.ep,.slice ba g.d.b.length bcap,vs 0,vs 1,vs 2,zI zi g.now]*(lay w0*(inum (.slice sa n.length sc) n*(bl q9 70 [.slice sa n.length sc]*(ownb (.slice ba g.d.b.length bcap) g.d.b*(vergs3 bc vs g.f*RJ))))))))∧Quiet w wr) (fun i _=>E.length-(intOf i).toNat)
    case atStart=>exact ⟨0,by omega,rfl,by simpa [logTxt] using H3.out,Q3.out⟩
    case round=>
     obtain ⟨k,hk,rfl,hh,hq⟩:=hrel
     have hle:(logTxt (E.take k)).length≤261*k:=by
      have:=logTxt_len (l:=E.take k) fun e he=>HES.out e (List.mem_of_mem_take he)
      rw [List.length_take] at this;omega
     obtain ⟨wo,rfl⟩:∃ wo:World,wo=wr:=⟨_,rfl⟩
     by_cases hlt:k<E.length
     ·obtain ⟨e0,he⟩:∃ e,E[k]? = some e:=⟨_,List.getElem?_eq_getElem hlt⟩
      have hsm:=HES.out e0 (List.mem_of_getElem? he)
      have hst:=logTxt_take E k e0 he
      have hevl:=evTxt_len hsm
      obtain ⟨S0,hS0⟩:∃ S,told++logTxt (E.take k)=S:=⟨_,rfl⟩
      have hSl:S0.length≤200000000+261*166:=by rw [←hS0,List.length_append];omega
      have hst2:told++logTxt (E.take (k+1))=S0++line (evTxt e0):=by rw [hst,←List.append_assoc,hS0]
      rw [hS0] at hh
      have HST:=zH hst2;have HSM:=zH hsm;have HEK:=zH he
      obtain ⟨ge,oe,ce,eh,-,-,-⟩:=hh.two.row.get (by omega)
      simp only [Value.slice.injEq] at eh
      obtain ⟨rfl,_,rfl⟩:=eh
      obtain ⟨⟨ep2,⟨kd,nw,jb,tr,wk,tm⟩⟩,⟨x0',x1',x2'⟩,⟨s1,s2,s3,s4⟩⟩:=e0
      have mkS:∀ W A,Holds W (revs (.slice (some ⟨ge,oe,none⟩) E.length ec) E*A)→W.cell? ⟨ge,oe+k*14+1,none⟩=some (zI zi kd)∧W.cell? ⟨ge,oe+k*14+2,none⟩=some (zI zi nw)∧W.cell? ⟨ge,oe+k*14+3,none⟩=some (zI zi jb)∧W.cell? ⟨ge,oe+k*14+4,none⟩=some (zI zi tr)∧W.cell? ⟨ge,oe+k*14+5,none⟩=some (zI zi wk)∧W.cell? ⟨ge,oe+k*14+6,none⟩=some (zI zi tm)∧W.cell? ⟨ge,oe+k*14+10,none⟩=some (zI zi s1)∧W.cell? ⟨ge,oe+k*14+11,none⟩=some (zI zi s2)∧W.cell? ⟨ge,oe+k*14+12,none⟩=some (zI zi s3)∧W.cell? ⟨ge,oe+k*14+13,none⟩=some (zI zi s4):=fun W A h=>by
       obtain ⟨ge',oe',ce',eh,-,-,hce⟩:=h.row.get (by omega)
       simp only [Value.slice.injEq,Option.some.injEq,Addr.mk.injEq,and_true] at eh
       obtain ⟨⟨rfl,rfl⟩,_,rfl⟩:=eh
       exact ⟨evvs_cell hce HEK.out 1 _ (by omega) rfl,evvs_cell hce HEK.out 2 _ (by omega) rfl,evvs_cell hce HEK.out 3 _ (by omega) rfl,evvs_cell hce HEK.out 4 _ (by omega) rfl,evvs_cell hce HEK.out 5 _ (by omega) rfl,evvs_cell hce HEK.out 6 _ (by omega) rfl,evvs_cell hce HEK.out 10 _ (by omega) rfl,evvs_cell hce HEK.out 11 _ (by omega) rfl,evvs_cell hce HEK.out 12 _ (by omega) rfl,evvs_cell hce HEK.out 13 _ (by omega) rfl⟩
      have mkE:∀ W A,Holds W (revs (.slice (some ⟨ge,oe,none⟩) E.length ec) E*A)→W.cell? ⟨ge,oe+k*14,none⟩=some (zI zi ep2):=fun W A h=>by
       obtain ⟨ge',oe',ce',eh,-,-,hce⟩:=h.row.get (by omega)
       simp only [Value.slice.injEq,Option.some.injEq,Addr.mk.injEq,and_true] at eh
       obtain ⟨⟨rfl,rfl⟩,_,rfl⟩:=eh
       exact evvs_cell0 hce HEK.out
      have MKS:=zH mkS;have MKE:=zH mkE
      have HH:=zH hh;have HQ:=zH hq
      have hkz:(k:Int)<(E.length:Int):=by omega
      clear hh hq he hst hS0 hst2 hsm hle mkS mkE
      go_wp2_with fail
      have H4:=zH (HH.out.drew.eq (by ac_rfl:_=revs (.slice (some ⟨ge,oe,none⟩) E.length ec) E*(rst b bc S0*(bl bc 53 [zI zi g.d.ep,.slice ba g.d.b.length bcap,vs 0,vs 1,vs 2,zI zi g.now]*(lay w0*(inum (.slice sa n.length sc) n*(bl q9 70 [.slice sa n.length sc]*(ownb (.slice ba g.d.b.length bcap) g.d.b*(vergs3 bc vs g.f*RJ)))))))))
      have Q4:=zH HQ.out.drew
      refine wp_region_lexH (fun W=>W.cell? ⟨ge,oe+k*14+1,none⟩=some (zI zi kd)∧W.cell? ⟨ge,oe+k*14+2,none⟩=some (zI zi nw)∧W.cell? ⟨ge,oe+k*14+3,none⟩=some (zI zi jb)∧W.cell? ⟨ge,oe+k*14+4,none⟩=some (zI zi tr)∧W.cell? ⟨ge,oe+k*14+5,none⟩=some (zI zi wk)∧W.cell? ⟨ge,oe+k*14+6,none⟩=some (zI zi tm)∧W.cell? ⟨ge,oe+k*14+10,none⟩=some (zI zi s1)∧W.cell? ⟨ge,oe+k*14+11,none⟩=some (zI zi s2)∧W.cell? ⟨ge,oe+k*14+12,none⟩=some (zI zi s3)∧W.cell? ⟨ge,oe+k*14+13,none⟩=some (zI zi s4)) [13,14] [11,12] (fz2 11 84 [zI zi 0,zI zi 0,zI zi 0,zI zi 0,zI zi 0,zI zi 0] 12 92 [zI zi 0,zI zi 0,zI zi 0,zI zi 0]) _ (by kernel_rfl) (by kernel_rfl) (by kernel_rfl) fz2_fl fz2_no (fz2_ok rfl ⟨rfl,fun a w=>by kernel_rfl⟩ rfl ⟨rfl,fun a w=>by kernel_rfl⟩) (fun W o h=>⟨cell_alloc_keep h.1 o,cell_alloc_keep h.2.1 o,cell_alloc_keep h.2.2.1 o,cell_alloc_keep h.2.2.2.1 o,cell_alloc_keep h.2.2.2.2.1 o,cell_alloc_keep h.2.2.2.2.2.1 o,cell_alloc_keep h.2.2.2.2.2.2.1 o,cell_alloc_keep h.2.2.2.2.2.2.2.1 o,cell_alloc_keep h.2.2.2.2.2.2.2.2.1 o,cell_alloc_keep h.2.2.2.2.2.2.2.2.2 o⟩) (MKS.out _ _ H4.out) H4.out ?_
      repeat (first|(refine LexHL.still (v:=?_) (by rfl) (by rfl) ?_ ?_;rotate_left;(focus (intro W hW;(try dsimp only at hW);go_simp;(try (with_reducible rfl));done));(try simp only [zP,zA,zB,zC])))
      refine LexHL.made rfl ?_
      intro q20 hlv
      clear hlv
      try simp only [zP,zA,zB,zC]
      refine LexHL.made rfl ?_
      intro q21 hlv
      clear hlv
      try simp only [zP,zA,zB,zC]
      refine LexHL.storeB (q:=q20) (t:=84) (cs:=[zI zi 0,zI zi 0,zI zi 0,zI zi 0,zI zi 0,zI zi 0]) (B:=bl q21 92 [zI zi 0,zI zi 0,zI zi 0,zI zi 0]*(revs (.slice (some ⟨ge,oe,none⟩) E.length ec) E*(rst b bc S0*(bl bc 53 [zI zi g.d.ep,.slice ba g.d.b.length bcap,vs 0,vs 1,vs 2,zI zi g.now]*(lay w0*(inum (.slice sa n.length sc) n*(bl q9 70 [.slice sa n.length sc]*(ownb (.slice ba g.d.b.length bcap) g.d.b*(vergs3 bc vs g.f*RJ))))))))) 84 _ _ rfl [zI zi kd,zI zi nw,zI zi jb,zI zi tr,zI zi wk,zI zi tm] rfl rfl rfl (by kernel_rfl) (by simp [Ones,Value.oneCell']) rfl rfl (by decide) (by ac_rfl) (fun W R2 h=>MKS.out W (bl q20 84 [zI zi kd,zI zi nw,zI zi jb,zI zi tr,zI zi wk,zI zi tm]*(bl q21 92 [zI zi 0,zI zi 0,zI zi 0,zI zi 0]*(rst b bc S0*(bl bc 53 [zI zi g.d.ep,.slice ba g.d.b.length bcap,vs 0,vs 1,vs 2,zI zi g.now]*(lay w0*(inum (.slice sa n.length sc) n*(bl q9 70 [.slice sa n.length sc]*(ownb (.slice ba g.d.b.length bcap) g.d.b*(vergs3 bc vs g.f*RJ))))))))*R2) (h.eq (by ac_rfl))) ?_
      try simp only [zP,zA,zB,zC]
      refine LexHL.storeB (q:=q21) (t:=92) (cs:=[zI zi 0,zI zi 0,zI zi 0,zI zi 0]) (B:=bl q20 84 [zI zi kd,zI zi nw,zI zi jb,zI zi tr,zI zi wk,zI zi tm]*(revs (.slice (some ⟨ge,oe,none⟩) E.length ec) E*(rst b bc S0*(bl bc 53 [zI zi g.d.ep,.slice ba g.d.b.length bcap,vs 0,vs 1,vs 2,zI zi g.now]*(lay w0*(inum (.slice sa n.length sc) n*(bl q9 70 [.slice sa n.length sc]*(ownb (.slice ba g.d.b.length bcap) g.d.b*(vergs3 bc vs g.f*RJ))))))))) 92 _ _ rfl [zI zi s1,zI zi s2,zI zi s3,zI zi s4] rfl rfl rfl (by kernel_rfl) (by simp [Ones,Value.oneCell']) rfl rfl (by decide) (by ac_rfl) (fun W R2 h=>MKS.out W (bl q21 92 [zI zi s1,zI zi s2,zI zi s3,zI zi s4]*(bl q20 84 [zI zi kd,zI zi nw,zI zi jb,zI zi tr,zI zi wk,zI zi tm]*(rst b bc S0*(bl bc 53 [zI zi g.d.ep,.slice ba g.d.b.length bcap,vs 0,vs 1,vs 2,zI zi g.now]*(lay w0*(inum (.slice sa n.length sc) n*(bl q9 70 [.slice sa n.length sc]*(ownb (.slice ba g.d.b.length bcap) g.d.b*(vergs3 bc vs g.f*RJ))))))))*R2) (h.eq (by ac_rfl))) ?_
      try simp only [zP,zA,zB,zC]
      refine LexHL.done ?_
      intro W hS hA hq
      have HA:=zH hA;have QA:=zH (Q4.out.trans hq)
      clear hS hA hq
      go_wp2_with fail
      have mk2:∀ W A,Holds W (bl q21 92 [zI zi s1,zI zi s2,zI zi s3,zI zi s4]*(bl q20 84 [zI zi kd,zI zi nw,zI zi jb,zI zi tr,zI zi wk,zI zi tm]*(revs (.slice (some ⟨ge,oe,none⟩) E.length ec) E*A)))→W.cell? ⟨ge,oe+k*14,none⟩=some (zI zi ep2)∧W.cell? ⟨q20,0,none⟩=some (zI zi kd)∧W.cell? ⟨q20,1,none⟩=some (zI zi nw)∧W.cell? ⟨q20,2,none⟩=some (zI zi jb)∧W.cell? ⟨q20,3,none⟩=some (zI zi tr)∧W.cell? ⟨q20,4,none⟩=some (zI zi wk)∧W.cell? ⟨q20,5,none⟩=some (zI zi tm)∧W.cell? ⟨q21,0,none⟩=some (zI zi s1)∧W.cell? ⟨q21,1,none⟩=some (zI zi s2)∧W.cell? ⟨q21,2,none⟩=some (zI zi s3)∧W.cell? ⟨q21,3,none⟩=some (zI zi s4):=fun W A h=>⟨MKE.out W _ h.three,h.two.bl.cell 0 _ rfl,h.two.bl.cell 1 _ rfl,h.two.bl.cell 2 _ rfl,h.two.bl.cell 3 _ rfl,h.two.bl.cell 4 _ rfl,h.two.bl.cell 5 _ rfl,h.bl.cell 0 _ rfl,h.bl.cell 1 _ rfl,h.bl.cell 2 _ rfl,h.bl.cell 3 _ rfl⟩
      have MK2:=zH mk2;clear mk2
      have HD:=zH HA.out.drew
      have QD:=zH QA.out.drew
      have hl7:=nums_len HSM.out.r
      have hl4:=nums_len HSM.out.j
      simp only [List.length_cons,List.length_nil] at hl7 hl4
      obtain ⟨N,hN⟩:∃ N,nums [ep2,kd,nw,jb,tr,wk,tm]=N:=⟨_,rfl⟩
      obtain ⟨J,hJ⟩:∃ J,nums [s1,s2,s3,s4]=J:=⟨_,rfl⟩
      rw [hN] at hl7
      rw [hJ] at hl4
      have HN:=zH hN;have HJ:=zH hJ
      clear hN hJ
      refine wp_region_lexF (fun W=>W.cell? ⟨ge,oe+k*14,none⟩=some (zI zi ep2)∧W.cell? ⟨q20,0,none⟩=some (zI zi kd)∧W.cell? ⟨q20,1,none⟩=some (zI zi nw)∧W.cell? ⟨q20,2,none⟩=some (zI zi jb)∧W.cell? ⟨q20,3,none⟩=some (zI zi tr)∧W.cell? ⟨q20,4,none⟩=some (zI zi wk)∧W.cell? ⟨q20,5,none⟩=some (zI zi tm)∧W.cell? ⟨q21,0,none⟩=some (zI zi s1)∧W.cell? ⟨q21,1,none⟩=some (zI zi s2)∧W.cell? ⟨q21,2,none⟩=some (zI zi s3)∧W.cell? ⟨q21,3,none⟩=some (zI zi s4)) [20,30,32] [19,29] (fzI 19 3 (ivs [ep2,kd,nw,jb,tr,wk,tm]) 7 29 (ivs [s1,s2,s3,s4]) 4) _ (by kernel_rfl) (by kernel_rfl) (by kernel_rfl) fzI_fl fzI_no (fun W o h=>⟨cell_alloc_keep h.1 o,cell_alloc_keep h.2.1 o,cell_alloc_keep h.2.2.1 o,cell_alloc_keep h.2.2.2.1 o,cell_alloc_keep h.2.2.2.2.1 o,cell_alloc_keep h.2.2.2.2.2.1 o,cell_alloc_keep h.2.2.2.2.2.2.1 o,cell_alloc_keep h.2.2.2.2.2.2.2.1 o,cell_alloc_keep h.2.2.2.2.2.2.2.2.1 o,cell_alloc_keep h.2.2.2.2.2.2.2.2.2.1 o,cell_alloc_keep h.2.2.2.2.2.2.2.2.2.2 o⟩) (MK2.out _ _ HD.out) HD.out ?_
      repeat (first|(refine LexFL.still (v:=?_) (by rfl) (by rfl) ?_ ?_;rotate_left;(focus (intro W hW;(try dsimp only at hW);go_simp;(try (with_reducible rfl));done));(try simp only [zP,zA,zB,zC])))
      refine LexFL.made (by rfl) (by rfl) (fun w=>by go_simp;rfl) ?_
      intro q19 hlv
      clear hlv
      try simp only [zP,zA,zB,zC]
      refine LexFL.call (f:=35) (args:=#[.string (strOf tRecord),.slice (some ⟨q19,0,none⟩) 7 7]) (by rfl) (by rfl) (by decide) (fun W hS=>by go_simp;rfl) ?_
      intro W1 R1 hS hq hA
      refine (rlist_sl tRecord _ [ep2,kd,nw,jb,tr,wk,tm] W1 (by decide) (lay_laid (hA.eq (by ac_rfl:_=lay w0*(bl q19 3 (ivs [ep2,kd,nw,jb,tr,wk,tm])*(bl q21 92 [zI zi s1,zI zi s2,zI zi s3,zI zi s4]*(bl q20 84 [zI zi kd,zI zi nw,zI zi jb,zI zi tr,zI zi wk,zI zi tm]*(revs (.slice (some ⟨ge,oe,none⟩) E.length ec) E*(rst b bc S0*(bl bc 53 [zI zi g.d.ep,.slice ba g.d.b.length bcap,vs 0,vs 1,vs 2,zI zi g.now]*(inum (.slice sa n.length sc) n*(bl q9 70 [.slice sa n.length sc]*(ownb (.slice ba g.d.b.length bcap) g.d.b*(vergs3 bc vs g.f*RJ)))))))))*R1)))) (bl_rowI (n:=7) (hA.eq (HP.assoc _ _ _)) rfl (by decide)) (by simp) (sms_i64 HSM.out.r)).mono ?_
      rw [HN.out]
      rintro e W2 ⟨rfl,hb2⟩
      have h2:=hA.below hb2
      refine ⟨_,rfl,MK2.out W2 (bl q19 3 (ivs [ep2,kd,nw,jb,tr,wk,tm])*(rst b bc S0*(bl bc 53 [zI zi g.d.ep,.slice ba g.d.b.length bcap,vs 0,vs 1,vs 2,zI zi g.now]*(lay w0*(inum (.slice sa n.length sc) n*(bl q9 70 [.slice sa n.length sc]*(ownb (.slice ba g.d.b.length bcap) g.d.b*(vergs3 bc vs g.f*RJ)))))))*R1) (h2.eq (by ac_rfl)),hq.trans (Quiet.below hb2),_,h2,?_⟩
      clear hS hq hA hb2 h2
      try simp only [zP,zA,zB,zC]
      repeat (first|(refine LexFL.still (v:=?_) (by rfl) (by rfl) ?_ ?_;rotate_left;(focus (intro W hW;(try dsimp only at hW);go_simp;(try (with_reducible rfl));done));(try simp only [zP,zA,zB,zC])))
      refine LexFL.made (by rfl) (by rfl) (fun w=>by go_simp;rfl) ?_
      intro q29 hlv
      clear hlv
      try simp only [zP,zA,zB,zC]
      refine LexFL.call (f:=35) (args:=#[.string (strOf (32::tJob)),.slice (some ⟨q29,0,none⟩) 4 4]) (by rfl) (by rfl) (by decide) (fun W hS=>by go_simp;rfl) ?_
      intro W3 R3 hS hq hA
      refine (rlist_sl (32::tJob) _ [s1,s2,s3,s4] W3 (by decide) (lay_laid (hA.eq (by ac_rfl:_=lay w0*(bl q29 3 (ivs [s1,s2,s3,s4])*(bl q19 3 (ivs [ep2,kd,nw,jb,tr,wk,tm])*(bl q21 92 [zI zi s1,zI zi s2,zI zi s3,zI zi s4]*(bl q20 84 [zI zi kd,zI zi nw,zI zi jb,zI zi tr,zI zi wk,zI zi tm]*(revs (.slice (some ⟨ge,oe,none⟩) E.length ec) E*(rst b bc S0*(bl bc 53 [zI zi g.d.ep,.slice ba g.d.b.length bcap,vs 0,vs 1,vs 2,zI zi g.now]*(inum (.slice sa n.length sc) n*(bl q9 70 [.slice sa n.length sc]*(ownb (.slice ba g.d.b.length bcap) g.d.b*(vergs3 bc vs g.f*RJ))))))))))*R3)))) (bl_rowI (n:=4) (hA.eq (HP.assoc _ _ _)) rfl (by decide)) (by simp) (sms_i64 HSM.out.j)).mono ?_
      rw [HJ.out]
      rintro e W4 ⟨rfl,hb4⟩
      have h4:=hA.below hb4
      refine ⟨_,rfl,MK2.out W4 (bl q29 3 (ivs [s1,s2,s3,s4])*(bl q19 3 (ivs [ep2,kd,nw,jb,tr,wk,tm])*(rst b bc S0*(bl bc 53 [zI zi g.d.ep,.slice ba g.d.b.length bcap,vs 0,vs 1,vs 2,zI zi g.now]*(lay w0*(inum (.slice sa n.length sc) n*(bl q9 70 [.slice sa n.length sc]*(ownb (.slice ba g.d.b.length bcap) g.d.b*(vergs3 bc vs g.f*RJ))))))))*R3) (h4.eq (by ac_rfl)),hq.trans (Quiet.below hb4),_,h4,?_⟩
      clear hS hq hA hb4 h4
      try simp only [zP,zA,zB,zC]
      refine LexFL.still (v:=.string (strOf ((tRecord++N)++((32::tJob)++J)))) (by rfl) (by rfl) (fun W _=>exec_add_str (l:=tRecord++N) (m:=(32::tJob)++J) (.tmp 372) (.tmp 382) rfl rfl rfl (by simp [tRecord,tJob];omega)) ?_
      try simp only [zP,zA,zB,zC]
      have hev:evTxt ⟨⟨ep2,⟨kd,nw,jb,tr,wk,tm⟩⟩,⟨x0',x1',x2'⟩,⟨s1,s2,s3,s4⟩⟩=(tRecord++N)++((32::tJob)++J):=by
       rw [←HN.out,←HJ.out]
       show tRecord++nums [ep2,kd,nw,jb,tr,wk,tm]++(32::tJob)++jobTxt ⟨s1,s2,s3,s4⟩=_
       rw [List.append_assoc (tRecord++nums [ep2,kd,nw,jb,tr,wk,tm])]
       rfl
      rw [hev] at hevl HST
      obtain ⟨X,hX⟩:∃ X,(tRecord++N)++((32::tJob)++J)=X:=⟨_,rfl⟩
      rw [hX] at hevl HST ⊢
      refine LexFL.call (f:=30) (args:=#[.pointer (some ⟨b,0,none⟩),.string (strOf X)]) (by rfl) (by rfl) (by decide) (fun W hS=>by go_simp) ?_
      intro W5 R5 hS hq hA
      refine (rsay_sl b bc S0 X W5 (hA.eq (by ac_rfl:_=rst b bc S0*(bl q29 3 (ivs [s1,s2,s3,s4])*(bl q19 3 (ivs [ep2,kd,nw,jb,tr,wk,tm])*(bl q21 92 [zI zi s1,zI zi s2,zI zi s3,zI zi s4]*(bl q20 84 [zI zi kd,zI zi nw,zI zi jb,zI zi tr,zI zi wk,zI zi tm]*(revs (.slice (some ⟨ge,oe,none⟩) E.length ec) E*(bl bc 53 [zI zi g.d.ep,.slice ba g.d.b.length bcap,vs 0,vs 1,vs 2,zI zi g.now]*(lay w0*(inum (.slice sa n.length sc) n*(bl q9 70 [.slice sa n.length sc]*(ownb (.slice ba g.d.b.length bcap) g.d.b*(vergs3 bc vs g.f*RJ))))))))))*R5))) (by omega) (by omega)).mono ?_
      rintro e W6 ⟨rfl,q6,h6⟩
      refine ⟨_,rfl,MK2.out W6 (bl q29 3 (ivs [s1,s2,s3,s4])*(bl q19 3 (ivs [ep2,kd,nw,jb,tr,wk,tm])*(rst b bc (S0++line X)*(bl bc 53 [zI zi g.d.ep,.slice ba g.d.b.length bcap,vs 0,vs 1,vs 2,zI zi g.now]*(lay w0*(inum (.slice sa n.length sc) n*(bl q9 70 [.slice sa n.length sc]*(ownb (.slice ba g.d.b.length bcap) g.d.b*(vergs3 bc vs g.f*RJ))))))))*R5) (h6.eq (by ac_rfl)),hq.trans q6,bl q29 3 (ivs [s1,s2,s3,s4])*(bl q19 3 (ivs [ep2,kd,nw,jb,tr,wk,tm])*(bl q21 92 [zI zi s1,zI zi s2,zI zi s3,zI zi s4]*(bl q20 84 [zI zi kd,zI zi nw,zI zi jb,zI zi tr,zI zi wk,zI zi tm]*(revs (.slice (some ⟨ge,oe,none⟩) E.length ec) E*(rst b bc (S0++line X)*(bl bc 53 [zI zi g.d.ep,.slice ba g.d.b.length bcap,vs 0,vs 1,vs 2,zI zi g.now]*(lay w0*(inum (.slice sa n.length sc) n*(bl q9 70 [.slice sa n.length sc]*(ownb (.slice ba g.d.b.length bcap) g.d.b*(vergs3 bc vs g.f*RJ))))))))))),h6.eq (by ac_rfl),?_⟩
      clear hS hq hA q6 h6
      try simp only [zP,zA,zB,zC]
      refine LexFL.done ?_
      intro W7 hS hA hq
      have H7:=zH ((hA.eq (by ac_rfl:_=(bl q29 3 (ivs [s1,s2,s3,s4])*(bl q19 3 (ivs [ep2,kd,nw,jb,tr,wk,tm])*(bl q21 92 [zI zi s1,zI zi s2,zI zi s3,zI zi s4]*bl q20 84 [zI zi kd,zI zi nw,zI zi jb,zI zi tr,zI zi wk,zI zi tm])))*(rst b bc (S0++line X)*(revs (.slice (some ⟨ge,oe,none⟩) E.length ec) E*(bl bc 53 [zI zi g.d.ep,.slice ba g.d.b.length bcap,vs 0,vs 1,vs 2,zI zi g.now]*(lay w0*(inum (.slice sa n.length sc) n*(bl q9 70 [.slice sa n.length sc]*(ownb (.slice ba g.d.b.length bcap) g.d.b*(vergs3 bc vs g.f*RJ)))))))))).right);have Q7:=zH (QD.out.trans hq)
      clear hS hA hq
      go_wp2_with fail
      go_roundw
      case rel=>exact ⟨k+1,by omega,by go_num,by rw [HST.out];exact H7.out,Q7.out⟩
      case measure=>simp [intOf];omega
     ·obtain rfl:k=E.length:=by omega
      rw [List.take_length] at hh hle
      have HH:=zH hh;have HQ:=zH hq
      clear hh hq
      go_wp2_with fail
      refine (rsay_sl b bc (told++logTxt E) tEnd _ HH.out (by rw [List.length_append];omega) (by decide)).mono ?_
      rintro e W6 ⟨rfl,q6',h6⟩
      rw [List.append_assoc] at h6
      go_wp2
      first|go_end0|((try simp only [Exit.inBlock,Exit.then]);refine bodyPost_ret (results_none rfl _ _ _) rfl ?_)
      rw [HEE.out]
      have hz:=(h6.eq (by ac_rfl:_=revs (.slice ea E.length ec) E*(bl bc 53 [zI zi g.d.ep,.slice ba g.d.b.length bcap,vs 0,vs 1,vs 2,zI zi g.now]*(ownb (.slice ba g.d.b.length bcap) g.d.b*(vergs3 bc vs g.f*(rst b bc (told++(logTxt E++line tEnd))*(lay w0*(inum (.slice sa n.length sc) n*(bl q9 70 [.slice sa n.length sc]*RJ))))))))).right
      have hy:=chp_closeF hz
      rw [←HRJ.out] at hy
      have hx:=hy.eq (by ac_rfl:_=inum (.slice sa n.length sc) n*(bl q9 70 [.slice sa n.length sc]*(bl q14 86 (zstep 0)*(bl q4 22 [(.slice (some ⟨g1,0,none⟩) (r.length+1) c1)]*wds (.slice (some ⟨g1,0,none⟩) (r.length+1) c1) (x::r))))*(rst b bc (told++(logTxt E++line tEnd))*(chp bc g*(lay w0*R))))
      exact ⟨rfl,HQ.out.trans q6',hx.right⟩
end Go.Proofs.YtfihmpkkpgmdhaaGreatDoor
