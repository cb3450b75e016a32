/-
  What the proof of DeskDoes leans on: definitions, laws, contracts of functions. No condition besides those that each theorem names.
-/
import Derived.Test.YtfihmpkkpgmdhaaGreatDoorZD33
import Derived.Test.YtfihmpkkpgmdhaaGreatDoorZD21
import Derived.Test.YtfihmpkkpgmdhaaGreatDoorZD24
import Derived.Test.YtfihmpkkpgmdhaaGreatDoorZD34
set_option maxRecDepth 100000
set_option maxHeartbeats 16000000
set_option linter.unusedVariables false
set_option linter.unusedSimpArgs false
set_option linter.unnecessarySimpa false
namespace Go.Proofs.YtfihmpkkpgmdhaaGreatDoor
open Go.RowKit
open List renaming setIfInBounds_toArray → zA, set_cons_zero → zB, set_cons_succ → zC
open Go.Act renaming put → zP
open Go.Lib renaming hid → zH
open Go.Value renaming int → zI
open Go.IntKind renaming i64 → zi
theorem rlN_steps (b bc:Nat) (told:List UInt8) (g:Gld) (s x:List UInt8) (r:List (List UInt8)) (n:List Int) (hw:words s=(x::r)) (hx:x≠tTear) (hm:numsOf r=some n) (T':List UInt8) (g':Gld) (hcase:(∃ n0:Int,(x=tOpen)∧(n=[n0])∧line (ansTxt (g.step ⟨1,n0,0,⟨0,0,0,0,0,0⟩⟩).2 false)=T'∧(g.step ⟨1,n0,0,⟨0,0,0,0,0,0⟩⟩).1=g')∨(∃ n0:Int,(x=tDown)∧(n=[n0])∧line (ansTxt (g.step ⟨4,n0,0,⟨0,0,0,0,0,0⟩⟩).2 false)=T'∧(g.step ⟨4,n0,0,⟨0,0,0,0,0,0⟩⟩).1=g')∨(∃ n0:Int,(x=tTick)∧(n=[n0])∧line (ansTxt (g.step ⟨5,n0,0,⟨0,0,0,0,0,0⟩⟩).2 false)=T'∧(g.step ⟨5,n0,0,⟨0,0,0,0,0,0⟩⟩).1=g')∨((x=tDisk)∧(n=[])∧line (tDisk++nums [g.d.ep,(g.d.b.length:Int),g.now])=T'∧g=g')∨(((decide (x=tAdd)&&decide ((n.length:Int)=2))=false)∧((decide (x=tTake)&&decide ((n.length:Int)=3))=false)∧((decide (x=tRenew)&&decide ((n.length:Int)=5))=false)∧((decide (x=tDone)&&decide ((n.length:Int)=4))=false)∧((decide (x=tDrop)&&decide ((n.length:Int)=4))=false)∧((decide (x=tOpen)&&decide ((n.length:Int)=1))=false)∧((decide (x=tDown)&&decide ((n.length:Int)=1))=false)∧((decide (x=tTick)&&decide ((n.length:Int)=1))=false)∧((decide (x=tJob)&&decide ((n.length:Int)=2))=false)∧((decide (x=tDisk)&&decide ((n.length:Int)=0))=false)∧((decide (x=tLog)&&decide ((n.length:Int)=0))=false)∧((decide (x=tHolders)&&decide ((n.length:Int)=1))=false)∧line tWhat=T'∧g=g')) (hg:g.Good) (w:World) {w0:World} {R:HP} (h:Holds w (rst b bc told*(chp bc g*(lay w0*R)))) (hs:s.length≤9000) (ht:told.length≤200000000) :
  Calls Tryz.prog 18 #[.pointer (some ⟨b,0,none⟩),.string (strOf s)] w fun e w'=>e=.returned (.tuple #[])∧Quiet w w'∧Holds w' (rst b bc (told++T')*(chp bc g'*(lay w0*R))):=by
 have HCASE:=zH hcase
 clear hcase
 have H0:=zH h;have HG:=zH hg
 have hb0:=bytes_no hx
 simp only [tTear] at hb0
 have hrl:r.length≤9000:=by
  have:=words_len s
  rw [hw] at this;simp only [List.length_cons] at this;omega
 have hrz:∀ y∈r,y.length≤9000:=fun y hy=>by
  have:=words_size s y (by rw [hw];simp [hy])
  omega
 have HRZ:=zH hrz;have HM:=zH hm;have HX:=zH hx
 have HML:=zH (numsOf_len hm)
 have hn0:¬ ((r.length:Int)+1)=0:=by omega
 have hn1:(((r.length:Int)+1)==0)=false:=by simpa using hn0
 have hp0:(0:Int)<(r.length:Int)+1:=by omega
 obtain ⟨i0,hi,hz0,hz1,hz2⟩:=info_parts Tryz.infoI64
 have HI:=zH hi;have HZ0:=zH hz0;have HZ1:=zH hz1;have HZ2:=zH hz2
 clear h hg hrz hm hx hi hz0 hz1 hz2
 go_enter Tryz.func18,Tryz.ntmps18
 go_wp2_with fail
 refine (rwords_sl s _ (by omega) H0.out).mono ?_
 rw [hw]
 rintro e w1 ⟨v1,rfl,q1,h1⟩
 obtain ⟨g1,c1,rfl,d1,d2⟩:=wds_cons h1
 obtain ⟨q4,hq4⟩:∃ q,w1.heap.size=q:=⟨_,rfl⟩
 obtain ⟨wa,hwa,HA,QA⟩:∃ wa,w1.alloc (.cells #[.slice (some ⟨g1,0,none⟩) (r.length+1) c1] 22)=wa∧Hid (Holds wa (bl q4 22 [.slice (some ⟨g1,0,none⟩) (r.length+1) c1]*(wds (.slice (some ⟨g1,0,none⟩) (r.length+1) c1) (x::r)*(rst b bc told*(chp bc g*(lay w0*R))))))∧Hid (Quiet w wa):=
  ⟨_,rfl,zH (h1.boxB (ty:=22) (cs:=[.slice (some ⟨g1,0,none⟩) (r.length+1) c1]) hq4),zH (q1.alloc _)⟩
 have y4:wa.cell? ⟨q4,0,none⟩=some (.slice (some ⟨g1,0,none⟩) (r.length+1) c1):=HA.out.bl.cell 0 _ rfl
 have y0:wa.cell? ⟨g1,0,none⟩=some (.string (strOf x)):=wds_cells HA.out.two 0 x rfl
 clear h1 q1 hw
 obtain ⟨q9,hq9⟩:∃ q,wa.heap.size=q:=⟨_,rfl⟩
 obtain ⟨wb,hwb,HB,QB⟩:∃ wb,wa.alloc (.cells #[.slice none 0 0] 70)=wb∧Hid (Holds wb (bl q9 70 [.slice none 0 0]*(bl q4 22 [.slice (some ⟨g1,0,none⟩) (r.length+1) c1]*(wds (.slice (some ⟨g1,0,none⟩) (r.length+1) c1) (x::r)*(rst b bc told*(chp bc g*(lay w0*R)))))))∧Hid (Quiet w wb):=
  ⟨_,rfl,zH (HA.out.boxB (ty:=70) (cs:=[.slice none 0 0]) hq9),zH (QA.out.alloc _)⟩
 go_wp2_with fail
 clear y4 y0 hwa hwb hq4 hq9 HA QA
 go_loopw [10] (fun vi wr=>∃ (j:Nat) (vn:Value),1≤j∧j≤r.length+1∧vi=zI zi j∧Holds wr (rw_ 3 1 vn (j-1) (ivs (n.take (j-1)))*(bl q9 70 [vn]*(bl q4 22 [(.slice (some ⟨g1,0,none⟩) (r.length+1) c1)]*(wds (.slice (some ⟨g1,0,none⟩) (r.length+1) c1) (x::r)*(rst b bc told*(chp bc g*(lay w0*R)))))))∧Quiet w wr) (fun vi _=>r.length+1-(intOf vi).toNat)
 case atStart=>exact ⟨1,_,by omega,by omega,rfl,HB.out.nilRow _ _,QB.out⟩
 case round=>
  obtain ⟨j,vn,hj1,hj2,rfl,hh,hq⟩:=hrel
  obtain ⟨wo,rfl⟩:∃ wo:World,wo=wr:=⟨_,rfl⟩
  obtain ⟨sa,sc,rfl,-,-⟩:=hh.row.shape
  have y4:wo.cell? ⟨q4,0,none⟩=some (.slice (some ⟨g1,0,none⟩) (r.length+1) c1):=hh.three.bl.cell 0 _ rfl
  have HH:=zH hh;have HQ:=zH hq
  clear hh hq
  by_cases hlt:j<r.length+1
  ·obtain ⟨y,hy⟩:∃ y,r[j-1]? = some y:=⟨_,List.getElem?_eq_getElem (by omega)⟩
   have hy1:(x::r)[0+j]? = some y:=by
    obtain ⟨k,rfl⟩:∃ k,j=k+1:=⟨j-1,by omega⟩
    simpa  using hy
   have yj:wo.cell? ⟨g1,j,none⟩=some (.string (strOf y)):=wds_cells HH.out.four j y (by simpa using hy1)
   obtain ⟨m,hm1,hm2⟩:=numsOf_at HM.out hy
   have hyl:=HRZ.out y (List.mem_of_getElem? hy)
   have hmb:=numOf_bound hm2
   rcases numOf_cases y with ⟨m',ha,hya,hb⟩|⟨_,_,_,hb⟩|⟨_,hb⟩
   rotate_left
   ·rw [hb] at hm2;cases hm2
   ·rw [hb] at hm2;cases hm2
   obtain rfl:m'=m:=Option.some.inj (hb.symm.trans hm2)
   have hla:Laid wo:=lay_laid (HH.out.eq (by ac_rfl:_=lay w0*(rw_ 3 1 (.slice sa (j-1) sc) (j-1) (ivs (n.take (j-1)))*(bl q9 70 [.slice sa (j-1) sc]*(bl q4 22 [(.slice (some ⟨g1,0,none⟩) (r.length+1) c1)]*(wds (.slice (some ⟨g1,0,none⟩) (r.length+1) c1) (x::r)*(rst b bc told*(chp bc g*R))))))))
   have hst:=ivs_take n (j-1) m' hm1
   have hlt':(j:Int)<(r.length:Int)+1:=by omega
   have HLA:=zH hla;have HST:=zH hst;have HAT:=zH ha;have HYL:=zH hyl;have HYA:=zH hya;have HY1:=zH hy1
   clear hla hst ha hy hy1 hm1 hm2 hb hyl hya
   go_wp2_with fail
   refine (atoi_ok _ m' _ (by have:=HYL.out;omega) HAT.out).mono ?_
   rintro e w2 ⟨rfl,b2⟩
   have H2:=zH (HH.out.below b2);have Q2:=zH (HQ.out.trans (Quiet.below b2));have L2:=zH (HLA.out.below b2)
   clear b2 y4 yj
   have z4:w2.cell? ⟨q4,0,none⟩=some (.slice (some ⟨g1,0,none⟩) (r.length+1) c1):=H2.out.three.bl.cell 0 _ rfl
   have zj:w2.cell? ⟨g1,j,none⟩=some (.string (strOf y)):=wds_cells H2.out.four j y (by simpa using HY1.out)
   go_wp2_with fail
   have hyy:((strOf (Lib.itoa m')).toList==(strOf y).toList)=true:=by rw [HYA.out];simp
   refine wp_region_lex (fun W=>W.cell? ⟨q4,0,none⟩=some (.slice (some ⟨g1,0,none⟩) (r.length+1) c1)∧W.cell? ⟨g1,j,none⟩=some (.string (strOf y))) [4] (by kernel_rfl) (by kernel_rfl) ⟨z4,zj⟩ ?_
   repeat (first|(refine LexL.none (by rfl) ?_;(try simp only [zP,zA,zB,zC]))|(refine LexL.still (v:=?_) (by rfl) ?_ ?_;rotate_left;(focus (intro W hW;(try dsimp only at hW);go_simp;(try (with_reducible rfl));done));(try simp only [zP,zA,zB,zC])))
   refine LexL.call (f:=32) (args:=#[zI zi m']) (w1:=w2.drew) (by rfl) (by decide) (by go_simp) ?_
   refine (rnum_sl m' _ L2.out.drew hmb).mono ?_
   rintro e w3 ⟨rfl,b3⟩
   have H3:=zH (H2.out.drew.below b3);have Q3:=zH (Q2.out.drew.trans (Quiet.below b3))
   clear b3 z4 zj
   have z4:w3.cell? ⟨q4,0,none⟩=some (.slice (some ⟨g1,0,none⟩) (r.length+1) c1):=H3.out.three.bl.cell 0 _ rfl
   have zj:w3.cell? ⟨g1,j,none⟩=some (.string (strOf y)):=wds_cells H3.out.four j y (by simpa using HY1.out)
   refine ⟨_,rfl,⟨z4,zj⟩,?_⟩
   try simp only [zP,zA,zB,zC]
   repeat (first|(refine LexL.none (by rfl) ?_;(try simp only [zP,zA,zB,zC]))|(refine LexL.still (v:=?_) (by rfl) ?_ ?_;rotate_left;(focus (intro W hW;(try dsimp only at hW);go_simp;(try (with_reducible rfl));done));(try simp only [zP,zA,zB,zC])))
   refine LexL.done ?_
   have z9:w3.cell? ⟨q9,0,none⟩=some (.slice sa (j-1) sc):=H3.out.two.bl.cell 0 _ rfl
   have H4:=zH (H3.out.alloc (.cells #[zI zi m'] 3))
   go_wp2_with (at_builtin;refine wpList_append_sl (n:=j-1) (m:=1) rfl _ _ 70 rfl 3 i0 _ 1 8 Tryz.underlying70 HI.out HZ0.out HZ1.out HZ2.out rfl (by decide) rfl rfl H4.out (ivs_row (l:=[m']) rfl (by simp) _ rfl _) rfl (ivs_ones [m']) (by omega) (by omega) ?_;intro v' w5 h5 q5;obtain ⟨va,vc,rfl,-,-⟩:=h5.row.shape;have H5:=zH h5;have Q5:=zH q5;have z5:w5.cell? ⟨q9,0,none⟩=some (.slice sa (j-1) sc):=h5.two.bl.cell 0 _ rfl;have f5:=h5.two.bl.free 0;clear h5 q5)
   go_roundw
   case rel=>exact ⟨j+1,.slice va j vc,by omega,by omega,by go_num,by rw [show j+1-1=j-1+1 by omega,←HST.out];exact (show Holds _ (rw_ 3 1 (.slice va j vc) (j-1+1) _*(bl q9 70 [.slice va j vc]*_)) from (by omega:j-1+1=j)▸(H5.out.two.setB 0 (.slice va (j-1+1) vc)).two),(Q3.out.trans (((Quiet.refl _).alloc _).trans Q5.out)).setCell _ _⟩
   case measure=>simp [intOf];omega
  ·obtain rfl:j=r.length+1:=by omega
   have hln:=HML.out
   have hnt:n.take (r.length+1-1)=n:=List.take_of_length_le (by omega)
   have hge:¬ (((r.length+1:Nat):Int)<(r.length:Int)+1):=by omega
   have hh2:Holds wo (inum (.slice sa n.length sc) n*(bl q9 70 [.slice sa n.length sc]*(bl q4 22 [(.slice (some ⟨g1,0,none⟩) (r.length+1) c1)]*(wds (.slice (some ⟨g1,0,none⟩) (r.length+1) c1) (x::r)*(rst b bc told*(chp bc g*(lay w0*R))))))):=by
    have:=HH.out
    rw [hnt,show r.length+1-1=n.length by omega] at this
    exact this
   have hsl:(.slice sa (r.length+1-1) sc:Value)=.slice sa n.length sc:=by rw [show r.length+1-1=n.length by omega]
   obtain ⟨q14,hq14⟩:∃ q,wo.heap.size=q:=⟨_,rfl⟩
   obtain ⟨wd,hwd,HD,QD⟩:∃ wd,wo.alloc (.cells #[zI zi 0,zI zi 0,zI zi 0,zI zi 0,zI zi 0,zI zi 0,zI zi 0,zI zi 0,zI zi 0] 86)=wd∧Hid (Holds wd (bl q14 86 (zstep 0)*(inum (.slice sa n.length sc) n*(bl q9 70 [.slice sa n.length sc]*(bl q4 22 [(.slice (some ⟨g1,0,none⟩) (r.length+1) c1)]*(wds (.slice (some ⟨g1,0,none⟩) (r.length+1) c1) (x::r)*(rst b bc told*(chp bc g*(lay w0*R)))))))))∧Hid (Quiet w wd):=
    ⟨_,rfl,zH (hh2.boxB (ty:=86) (cs:=zstep 0) hq14),zH (HQ.out.alloc _)⟩
   clear hh2 hnt hln hlt HH HQ hsl
   go_wp2_with (first|(refine wpList_built rfl 86 _ rfl (zstep 0) (by kernel_rfl) ?_)|(refine wpList_store_whole rfl 86 _ _ rfl q14 (zstep 0) rfl rfl HD.out.bl rfl (by kernel_rfl) (by simp [Ones,zstep,Value.oneCell']) ?_;intro we h1' h2' h3';have HE:=zH (HD.out.grown h2' h1');have QE:=zH (QD.out.trans (Quiet.grown h2'));have c4:we.cell? ⟨q4,0,none⟩=some (.slice (some ⟨g1,0,none⟩) (r.length+1) c1):=HE.out.four.bl.cell 0 _ rfl;have c9:we.cell? ⟨q9,0,none⟩=some (.slice sa n.length sc):=HE.out.three.bl.cell 0 _ rfl;have xx:we.cell? ⟨g1,0,none⟩=some (.string (strOf x)):=wds_cells (HE.out.eq (by ac_rfl:_=wds (.slice (some ⟨g1,0,none⟩) (r.length+1) c1) (x::r)*(bl q14 86 (zstep 0)*(inum (.slice sa n.length sc) n*(bl q9 70 [.slice sa n.length sc]*(bl q4 22 [(.slice (some ⟨g1,0,none⟩) (r.length+1) c1)]*(rst b bc told*(chp bc g*(lay w0*R))))))))) 0 x rfl;have x0:=HE.out.bl.cell 0 _ rfl;clear h1' h2' h3' hwd hq14 y4))
   rcases HCASE.out with ⟨n0,hxe,hne,rfl,rfl⟩|⟨n0,hxe,hne,rfl,rfl⟩|⟨n0,hxe,hne,rfl,rfl⟩|⟨hxe,hne,rfl,rfl⟩|⟨hAdd,hTake,hRenew,hDone,hDrop,hOpen,hDown,hTick,hJob,hDisk,hLog,hHolders,rfl,rfl⟩
   all_goals clear HCASE
   ·have HXE:=zH hxe;have HNE:=zH hne
    clear hxe hne
    have een:inum (.slice sa n.length sc) n=inum (.slice sa n.length sc) [n0]:=by rw [HNE.out]
    have HEn:=zH (HE.out.two.imp (B:=inum (.slice sa n.length sc) [n0]) (fun F h=>by rw [←een];exact h))
    clear een
    obtain ⟨gn,cn,en,dn1,dn2⟩:=inum_cons HEn.out
    simp only [Value.slice.injEq] at en
    obtain ⟨rfl,hnl,rfl⟩:=en
    clear hnl HEn
    have m0:we.cell? ⟨gn,0,none⟩=some (zI zi n0):=inum_cell HE.out.two 0 _ (by rw [HNE.out];rfl)
    have bn0:(0:Int)<(n.length:Int):=by rw [HNE.out];simp
    have k3:=HE.out.bl.cell 3 _ rfl
    have k1:=HE.out.bl.cell 1 _ rfl
    have f1:=HE.out.bl.free 1
    have f0:=HE.out.bl.free 0
    obtain ⟨curn,hbn⟩:=inum_blk HE.out.two
    have nA:q14≠q9:=BlockAt.ne HE.out.bl HE.out.three.bl (by decide)
    have nB:q9≠q14:=Ne.symm nA
    have nC:q14≠gn:=BlockAt.ne HE.out.bl hbn (by decide)
    have nD:gn≠q14:=Ne.symm nC
    clear hbn
    refine (ris_sl q4 q9 g1 0 (r.length+1) c1 n.length _ _ x tAdd 2 _ c4 (Nat.succ_pos _) xx c9).mono ?_
    rw [tst tAdd 2 HXE HNE (rfl:_=false)]
    rintro e we' ⟨rfl,rfl⟩
    obtain ⟨we,rfl⟩:∃ we:World,we=we':=⟨_,rfl⟩
    go_wp2_with fail
    refine (ris_sl q4 q9 g1 0 (r.length+1) c1 n.length _ _ x tTake 3 _ c4 (Nat.succ_pos _) xx c9).mono ?_
    rw [tst tTake 3 HXE HNE (rfl:_=false)]
    rintro e we' ⟨rfl,rfl⟩
    obtain ⟨we,rfl⟩:∃ we:World,we=we':=⟨_,rfl⟩
    go_wp2_with fail
    refine (ris_sl q4 q9 g1 0 (r.length+1) c1 n.length _ _ x tRenew 5 _ c4 (Nat.succ_pos _) xx c9).mono ?_
    rw [tst tRenew 5 HXE HNE (rfl:_=false)]
    rintro e we' ⟨rfl,rfl⟩
    obtain ⟨we,rfl⟩:∃ we:World,we=we':=⟨_,rfl⟩
    go_wp2_with fail
    refine (ris_sl q4 q9 g1 0 (r.length+1) c1 n.length _ _ x tDone 4 _ c4 (Nat.succ_pos _) xx c9).mono ?_
    rw [tst tDone 4 HXE HNE (rfl:_=false)]
    rintro e we' ⟨rfl,rfl⟩
    obtain ⟨we,rfl⟩:∃ we:World,we=we':=⟨_,rfl⟩
    go_wp2_with fail
    refine (ris_sl q4 q9 g1 0 (r.length+1) c1 n.length _ _ x tDrop 4 _ c4 (Nat.succ_pos _) xx c9).mono ?_
    rw [tst tDrop 4 HXE HNE (rfl:_=false)]
    rintro e we' ⟨rfl,rfl⟩
    obtain ⟨we,rfl⟩:∃ we:World,we=we':=⟨_,rfl⟩
    go_wp2_with fail
    refine (ris_sl q4 q9 g1 0 (r.length+1) c1 n.length _ _ x tOpen 1 _ c4 (Nat.succ_pos _) xx c9).mono ?_
    rw [tst tOpen 1 HXE HNE (rfl:_=true)]
    rintro e we' ⟨rfl,rfl⟩
    obtain ⟨we,rfl⟩:∃ we:World,we=we':=⟨_,rfl⟩
    go_wp2_with fail
    obtain ⟨RJ,hRJ⟩:∃ RJ:HP,(inum (.slice (some ⟨gn,0,none⟩) n.length sc) n*(bl q9 70 [.slice (some ⟨gn,0,none⟩) n.length sc]*(bl q4 22 [(.slice (some ⟨g1,0,none⟩) (r.length+1) c1)]*wds (.slice (some ⟨g1,0,none⟩) (r.length+1) c1) (x::r))))=RJ:=⟨_,rfl⟩
    have HH:Hid (Holds ((we.setCell ⟨q14,0,none⟩ (zI zi 1)).setCell ⟨q14,1,none⟩ (zI zi n0)).drew (bl q14 86 [zI zi 1,zI zi n0,zI zi 0,zI zi 0,zI zi 0,zI zi 0,zI zi 0,zI zi 0,zI zi 0]*(rst b bc told*(chp bc g*(lay w0*(RJ*R)))))):=zH (by rw [←hRJ];exact (show Holds ((we.setCell ⟨q14,0,none⟩ (zI zi 1)).setCell ⟨q14,1,none⟩ (zI zi n0)).drew (bl q14 86 [zI zi 1,zI zi n0,zI zi 0,zI zi 0,zI zi 0,zI zi 0,zI zi 0,zI zi 0,zI zi 0]*(inum (.slice (some ⟨gn,0,none⟩) n.length sc) n*(bl q9 70 [.slice (some ⟨gn,0,none⟩) n.length sc]*(bl q4 22 [(.slice (some ⟨g1,0,none⟩) (r.length+1) c1)]*(wds (.slice (some ⟨g1,0,none⟩) (r.length+1) c1) (x::r)*(rst b bc told*(chp bc g*(lay w0*R)))))))) from ((HE.out.setB 0 (zI zi 1)).setB 1 (zI zi n0)).drew).eq (by ac_rfl))
    have QH:Hid (Quiet w ((we.setCell ⟨q14,0,none⟩ (zI zi 1)).setCell ⟨q14,1,none⟩ (zI zi n0)).drew):=zH ((QE.out.setCell ⟨q14,0,none⟩ (zI zi 1)).setCell ⟨q14,1,none⟩ (zI zi n0)).drew
    clear hRJ
    obtain ⟨⟨G',⟨ac,aj,at'⟩⟩,hst⟩:∃ y,g.step ⟨1,n0,0,⟨0,0,0,0,0,0⟩⟩=y:=⟨_,rfl⟩
    have hsm:(g.step ⟨1,n0,0,⟨0,0,0,0,0,0⟩⟩).2.Sm:=by
     obtain ⟨lg,hlg⟩:=HG.out
     exact step_small hlg _
    rw [hst] at hsm
    have HST:=zH hst;have HSM:=zH hsm
    clear hst hsm
    refine wp_region_lexH (fun W=>W.cell? ⟨b,1,none⟩=some (.pointer (some ⟨bc,0,none⟩))∧BlockAt W q14 86 [zI zi 1,zI zi n0,zI zi 0,zI zi 0,zI zi 0,zI zi 0,zI zi 0,zI zi 0,zI zi 0]) [5,7] [6] (fz1 6 88 [zI zi 0,zI zi 0,zI zi 0]) _ (by kernel_rfl) (by kernel_rfl) (by kernel_rfl) fz1_fl fz1_no (fz1_ok rfl ⟨rfl,fun a w=>by kernel_rfl⟩) (fun W o h=>⟨cell_alloc_keep h.1 o,h.2.alloc o⟩) ⟨(show Holds _ (bl b 55 _*_) from HH.out.two).bl.cell 1 _ rfl,HH.out.bl⟩ HH.out ?_
    repeat (first|(refine LexHL.still (v:=?_) (by rfl) (by rfl) ?_ ?_;rotate_left;(focus (intro W hW;(try dsimp only at hW);go_simp;(try (with_reducible rfl));done));(try simp only [zP,zA,zB,zC])))
    refine LexHL.still (v:=.agg #[zI zi 1,zI zi n0,zI zi 0,zI zi 0,zI zi 0,zI zi 0,zI zi 0,zI zi 0,zI zi 0]) rfl (by rfl) (fun W hW=>exec_load_part 86 _ rfl q14 0 rfl [zI zi 1,zI zi n0,zI zi 0,zI zi 0,zI zi 0,zI zi 0,zI zi 0,zI zi 0,zI zi 0] hW.2 rfl Tryz.underlying86 rfl (by kernel_rfl)) ?_
    try simp only [zP,zA,zB,zC]
    refine LexHL.call (f:=34) (args:=#[.pointer (some ⟨bc,0,none⟩),.agg #[zI zi 1,zI zi n0,zI zi 0,zI zi 0,zI zi 0,zI zi 0,zI zi 0,zI zi 0,zI zi 0]]) rfl rfl (by decide) (fun W hS=>by go_simp) ?_
    intro W R1 hS hq hA
    refine (chstep_sl bc g 1 n0 0 0 0 0 0 0 0 W (hA.eq (by ac_rfl:_=chp bc g*(bl q14 86 [zI zi 1,zI zi n0,zI zi 0,zI zi 0,zI zi 0,zI zi 0,zI zi 0,zI zi 0,zI zi 0]*(rst b bc told*(lay w0*(RJ*R)))*R1))) HG.out).mono ?_
    rintro e W2 ⟨rfl,q2,h2⟩
    have hst':g.step ⟨1,n0,0,⟨0,0,0,0,0,0⟩⟩=(G',⟨ac,aj,at'⟩):=HST.out
    rw [hst'] at h2 ⊢
    have H2:=zH (h2.eq (by ac_rfl:_=chp bc G'*(bl q14 86 [zI zi 1,zI zi n0,zI zi 0,zI zi 0,zI zi 0,zI zi 0,zI zi 0,zI zi 0,zI zi 0]*(rst b bc told*(lay w0*(RJ*R))))*R1))
    refine ⟨_,rfl,⟨(show Holds _ (bl b 55 _*_) from H2.out.eq (by ac_rfl:_=rst b bc told*(chp bc G'*(bl q14 86 [zI zi 1,zI zi n0,zI zi 0,zI zi 0,zI zi 0,zI zi 0,zI zi 0,zI zi 0,zI zi 0]*(lay w0*(RJ*R)))*R1))).bl.cell 1 _ rfl,(H2.out.eq (by ac_rfl:_=bl q14 86 [zI zi 1,zI zi n0,zI zi 0,zI zi 0,zI zi 0,zI zi 0,zI zi 0,zI zi 0,zI zi 0]*(chp bc G'*(rst b bc told*(lay w0*(RJ*R)))*R1))).bl⟩,hq.trans q2,_,H2.out,?_⟩
    clear hS hq hA q2 h2 H2 hst'
    dsimp only [Ans.val]
    repeat (first|(refine LexHL.still (v:=?_) (by rfl) (by rfl) ?_ ?_;rotate_left;(focus (intro W hW;(try dsimp only at hW);go_simp;(try (with_reducible rfl));done));(try simp only [zP,zA,zB,zC])))
    refine LexHL.made rfl ?_
    intro qo hlv
    clear hlv
    try simp only [zP,zA,zB,zC]
    refine LexHL.storeB (q:=qo) (t:=88) (cs:=[zI zi 0,zI zi 0,zI zi 0]) (B:=chp bc G'*(bl q14 86 [zI zi 1,zI zi n0,zI zi 0,zI zi 0,zI zi 0,zI zi 0,zI zi 0,zI zi 0,zI zi 0]*(rst b bc told*(lay w0*(RJ*R))))) 88 _ _ rfl [zI zi ac,zI zi aj,zI zi at'] rfl rfl rfl (by kernel_rfl) (by simp [Ones,Value.oneCell']) rfl rfl (by decide) rfl (fun W R2 h=>⟨(show Holds _ (bl b 55 _*_) from h.eq (by ac_rfl:_=rst b bc told*(bl qo 88 [zI zi ac,zI zi aj,zI zi at']*(chp bc G'*(bl q14 86 [zI zi 1,zI zi n0,zI zi 0,zI zi 0,zI zi 0,zI zi 0,zI zi 0,zI zi 0,zI zi 0]*(lay w0*(RJ*R))))*R2))).bl.cell 1 _ rfl,(h.eq (by ac_rfl:_=bl q14 86 [zI zi 1,zI zi n0,zI zi 0,zI zi 0,zI zi 0,zI zi 0,zI zi 0,zI zi 0,zI zi 0]*(bl qo 88 [zI zi ac,zI zi aj,zI zi at']*(chp bc G'*(rst b bc told*(lay w0*(RJ*R))))*R2))).bl⟩) ?_
    try simp only [zP,zA,zB,zC]
    refine LexHL.done ?_
    intro W hS hA hq
    have HA:=zH (hA.eq (by ac_rfl:_=rst b bc told*(lay w0*(bl qo 88 [zI zi ac,zI zi aj,zI zi at']*(chp bc G'*(bl q14 86 [zI zi 1,zI zi n0,zI zi 0,zI zi 0,zI zi 0,zI zi 0,zI zi 0,zI zi 0,zI zi 0]*(RJ*R)))))));have QA:=zH (QH.out.trans hq)
    clear hS hA hq HH QH
    have qa0:=HA.out.three.bl.cell 0 _ rfl
    have qa1:=HA.out.three.bl.cell 1 _ rfl
    have qa2:=HA.out.three.bl.cell 2 _ rfl
    by_cases hac:ac=0
    ·subst hac
     go_wp2_with fail
     refine (rsay_sl b bc told tOk _ HA.out (by omega) (by decide)).mono ?_
     rintro e W4 ⟨rfl,q4',h4⟩
     go_wp2
     first|go_end0|((try simp only [Exit.inBlock,Exit.then]);refine bodyPost_ret (results_none rfl _ _ _) rfl ?_)
     refine ⟨rfl,QA.out.trans q4',?_⟩
     have hh:=(h4.eq (by ac_rfl:_=bl qo 88 [zI zi 0,zI zi aj,zI zi at']*bl q14 86 [zI zi 1,zI zi n0,zI zi 0,zI zi 0,zI zi 0,zI zi 0,zI zi 0,zI zi 0,zI zi 0]*RJ*(rst b bc (told++line tOk)*(chp bc G'*(lay w0*R))))).right
     rw [HST.out]
     simpa [ansTxt] using hh
    ·go_wp2_with fail
     refine (rlist_sl tNo _ [ac] _ (by decide) (lay_laid (HA.out.two.alloc (.cells #[zI zi ac] 3))) (ivs_row rfl (by simp) _ rfl _) (by simp) (by intro z hz;simp only [List.mem_cons,List.mem_nil_iff,or_false] at hz;subst hz;exact sm_i64 HSM.out.code)).mono ?_
     rintro e W3 ⟨rfl,hb3⟩
     have H3:=zH ((HA.out.alloc (.cells #[zI zi ac] 3)).below hb3);have Q3:=zH ((QA.out.alloc (.cells #[zI zi ac] 3)).trans (Quiet.below hb3))
     clear hb3
     go_wp2_with fail
     refine (rsay_sl b bc told (tNo++nums [ac]) _ H3.out (by omega) (by have:=ansTxt_len HSM.out true;simp only [ansTxt,ne_eq,hac,not_false_eq_true,if_true] at this;omega)).mono ?_
     rintro e W4 ⟨rfl,q4',h4⟩
     go_wp2
     first|go_end0|((try simp only [Exit.inBlock,Exit.then]);refine bodyPost_ret (results_none rfl _ _ _) rfl ?_)
     refine ⟨rfl,Q3.out.trans q4',?_⟩
     have hh:=(h4.eq (by ac_rfl:_=bl qo 88 [zI zi ac,zI zi aj,zI zi at']*bl q14 86 [zI zi 1,zI zi n0,zI zi 0,zI zi 0,zI zi 0,zI zi 0,zI zi 0,zI zi 0,zI zi 0]*RJ*(rst b bc (told++line (tNo++nums [ac]))*(chp bc G'*(lay w0*R))))).right
     rw [HST.out]
     simpa [ansTxt,hac] using hh
   ·have HXE:=zH hxe;have HNE:=zH hne
    clear hxe hne
    have een:inum (.slice sa n.length sc) n=inum (.slice sa n.length sc) [n0]:=by rw [HNE.out]
    have HEn:=zH (HE.out.two.imp (B:=inum (.slice sa n.length sc) [n0]) (fun F h=>by rw [←een];exact h))
    clear een
    obtain ⟨gn,cn,en,dn1,dn2⟩:=inum_cons HEn.out
    simp only [Value.slice.injEq] at en
    obtain ⟨rfl,hnl,rfl⟩:=en
    clear hnl HEn
    have m0:we.cell? ⟨gn,0,none⟩=some (zI zi n0):=inum_cell HE.out.two 0 _ (by rw [HNE.out];rfl)
    have bn0:(0:Int)<(n.length:Int):=by rw [HNE.out];simp
    have k3:=HE.out.bl.cell 3 _ rfl
    have k1:=HE.out.bl.cell 1 _ rfl
    have f1:=HE.out.bl.free 1
    have f0:=HE.out.bl.free 0
    obtain ⟨curn,hbn⟩:=inum_blk HE.out.two
    have nA:q14≠q9:=BlockAt.ne HE.out.bl HE.out.three.bl (by decide)
    have nB:q9≠q14:=Ne.symm nA
    have nC:q14≠gn:=BlockAt.ne HE.out.bl hbn (by decide)
    have nD:gn≠q14:=Ne.symm nC
    clear hbn
    refine (ris_sl q4 q9 g1 0 (r.length+1) c1 n.length _ _ x tAdd 2 _ c4 (Nat.succ_pos _) xx c9).mono ?_
    rw [tst tAdd 2 HXE HNE (rfl:_=false)]
    rintro e we' ⟨rfl,rfl⟩
    obtain ⟨we,rfl⟩:∃ we:World,we=we':=⟨_,rfl⟩
    go_wp2_with fail
    refine (ris_sl q4 q9 g1 0 (r.length+1) c1 n.length _ _ x tTake 3 _ c4 (Nat.succ_pos _) xx c9).mono ?_
    rw [tst tTake 3 HXE HNE (rfl:_=false)]
    rintro e we' ⟨rfl,rfl⟩
    obtain ⟨we,rfl⟩:∃ we:World,we=we':=⟨_,rfl⟩
    go_wp2_with fail
    refine (ris_sl q4 q9 g1 0 (r.length+1) c1 n.length _ _ x tRenew 5 _ c4 (Nat.succ_pos _) xx c9).mono ?_
    rw [tst tRenew 5 HXE HNE (rfl:_=false)]
    rintro e we' ⟨rfl,rfl⟩
    obtain ⟨we,rfl⟩:∃ we:World,we=we':=⟨_,rfl⟩
    go_wp2_with fail
    refine (ris_sl q4 q9 g1 0 (r.length+1) c1 n.length _ _ x tDone 4 _ c4 (Nat.succ_pos _) xx c9).mono ?_
    rw [tst tDone 4 HXE HNE (rfl:_=false)]
    rintro e we' ⟨rfl,rfl⟩
    obtain ⟨we,rfl⟩:∃ we:World,we=we':=⟨_,rfl⟩
    go_wp2_with fail
    refine (ris_sl q4 q9 g1 0 (r.length+1) c1 n.length _ _ x tDrop 4 _ c4 (Nat.succ_pos _) xx c9).mono ?_
    rw [tst tDrop 4 HXE HNE (rfl:_=false)]
    rintro e we' ⟨rfl,rfl⟩
    obtain ⟨we,rfl⟩:∃ we:World,we=we':=⟨_,rfl⟩
    go_wp2_with fail
    refine (ris_sl q4 q9 g1 0 (r.length+1) c1 n.length _ _ x tOpen 1 _ c4 (Nat.succ_pos _) xx c9).mono ?_
    rw [tst tOpen 1 HXE HNE (rfl:_=false)]
    rintro e we' ⟨rfl,rfl⟩
    obtain ⟨we,rfl⟩:∃ we:World,we=we':=⟨_,rfl⟩
    go_wp2_with fail
    refine (ris_sl q4 q9 g1 0 (r.length+1) c1 n.length _ _ x tDown 1 _ c4 (Nat.succ_pos _) xx c9).mono ?_
    rw [tst tDown 1 HXE HNE (rfl:_=true)]
    rintro e we' ⟨rfl,rfl⟩
    obtain ⟨we,rfl⟩:∃ we:World,we=we':=⟨_,rfl⟩
    go_wp2_with fail
    obtain ⟨RJ,hRJ⟩:∃ RJ:HP,(inum (.slice (some ⟨gn,0,none⟩) n.length sc) n*(bl q9 70 [.slice (some ⟨gn,0,none⟩) n.length sc]*(bl q4 22 [(.slice (some ⟨g1,0,none⟩) (r.length+1) c1)]*wds (.slice (some ⟨g1,0,none⟩) (r.length+1) c1) (x::r))))=RJ:=⟨_,rfl⟩
    have HH:Hid (Holds ((we.setCell ⟨q14,0,none⟩ (zI zi 4)).setCell ⟨q14,1,none⟩ (zI zi n0)).drew (bl q14 86 [zI zi 4,zI zi n0,zI zi 0,zI zi 0,zI zi 0,zI zi 0,zI zi 0,zI zi 0,zI zi 0]*(rst b bc told*(chp bc g*(lay w0*(RJ*R)))))):=zH (by rw [←hRJ];exact (show Holds ((we.setCell ⟨q14,0,none⟩ (zI zi 4)).setCell ⟨q14,1,none⟩ (zI zi n0)).drew (bl q14 86 [zI zi 4,zI zi n0,zI zi 0,zI zi 0,zI zi 0,zI zi 0,zI zi 0,zI zi 0,zI zi 0]*(inum (.slice (some ⟨gn,0,none⟩) n.length sc) n*(bl q9 70 [.slice (some ⟨gn,0,none⟩) n.length sc]*(bl q4 22 [(.slice (some ⟨g1,0,none⟩) (r.length+1) c1)]*(wds (.slice (some ⟨g1,0,none⟩) (r.length+1) c1) (x::r)*(rst b bc told*(chp bc g*(lay w0*R)))))))) from ((HE.out.setB 0 (zI zi 4)).setB 1 (zI zi n0)).drew).eq (by ac_rfl))
    have QH:Hid (Quiet w ((we.setCell ⟨q14,0,none⟩ (zI zi 4)).setCell ⟨q14,1,none⟩ (zI zi n0)).drew):=zH ((QE.out.setCell ⟨q14,0,none⟩ (zI zi 4)).setCell ⟨q14,1,none⟩ (zI zi n0)).drew
    clear hRJ
    obtain ⟨⟨G',⟨ac,aj,at'⟩⟩,hst⟩:∃ y,g.step ⟨4,n0,0,⟨0,0,0,0,0,0⟩⟩=y:=⟨_,rfl⟩
    have hsm:(g.step ⟨4,n0,0,⟨0,0,0,0,0,0⟩⟩).2.Sm:=by
     obtain ⟨lg,hlg⟩:=HG.out
     exact step_small hlg _
    rw [hst] at hsm
    have HST:=zH hst;have HSM:=zH hsm
    clear hst hsm
    refine wp_region_lexH (fun W=>W.cell? ⟨b,1,none⟩=some (.pointer (some ⟨bc,0,none⟩))∧BlockAt W q14 86 [zI zi 4,zI zi n0,zI zi 0,zI zi 0,zI zi 0,zI zi 0,zI zi 0,zI zi 0,zI zi 0]) [5,7] [6] (fz1 6 88 [zI zi 0,zI zi 0,zI zi 0]) _ (by kernel_rfl) (by kernel_rfl) (by kernel_rfl) fz1_fl fz1_no (fz1_ok rfl ⟨rfl,fun a w=>by kernel_rfl⟩) (fun W o h=>⟨cell_alloc_keep h.1 o,h.2.alloc o⟩) ⟨(show Holds _ (bl b 55 _*_) from HH.out.two).bl.cell 1 _ rfl,HH.out.bl⟩ HH.out ?_
    repeat (first|(refine LexHL.still (v:=?_) (by rfl) (by rfl) ?_ ?_;rotate_left;(focus (intro W hW;(try dsimp only at hW);go_simp;(try (with_reducible rfl));done));(try simp only [zP,zA,zB,zC])))
    refine LexHL.still (v:=.agg #[zI zi 4,zI zi n0,zI zi 0,zI zi 0,zI zi 0,zI zi 0,zI zi 0,zI zi 0,zI zi 0]) rfl (by rfl) (fun W hW=>exec_load_part 86 _ rfl q14 0 rfl [zI zi 4,zI zi n0,zI zi 0,zI zi 0,zI zi 0,zI zi 0,zI zi 0,zI zi 0,zI zi 0] hW.2 rfl Tryz.underlying86 rfl (by kernel_rfl)) ?_
    try simp only [zP,zA,zB,zC]
    refine LexHL.call (f:=34) (args:=#[.pointer (some ⟨bc,0,none⟩),.agg #[zI zi 4,zI zi n0,zI zi 0,zI zi 0,zI zi 0,zI zi 0,zI zi 0,zI zi 0,zI zi 0]]) rfl rfl (by decide) (fun W hS=>by go_simp) ?_
    intro W R1 hS hq hA
    refine (chstep_sl bc g 4 n0 0 0 0 0 0 0 0 W (hA.eq (by ac_rfl:_=chp bc g*(bl q14 86 [zI zi 4,zI zi n0,zI zi 0,zI zi 0,zI zi 0,zI zi 0,zI zi 0,zI zi 0,zI zi 0]*(rst b bc told*(lay w0*(RJ*R)))*R1))) HG.out).mono ?_
    rintro e W2 ⟨rfl,q2,h2⟩
    have hst':g.step ⟨4,n0,0,⟨0,0,0,0,0,0⟩⟩=(G',⟨ac,aj,at'⟩):=HST.out
    rw [hst'] at h2 ⊢
    have H2:=zH (h2.eq (by ac_rfl:_=chp bc G'*(bl q14 86 [zI zi 4,zI zi n0,zI zi 0,zI zi 0,zI zi 0,zI zi 0,zI zi 0,zI zi 0,zI zi 0]*(rst b bc told*(lay w0*(RJ*R))))*R1))
    refine ⟨_,rfl,⟨(show Holds _ (bl b 55 _*_) from H2.out.eq (by ac_rfl:_=rst b bc told*(chp bc G'*(bl q14 86 [zI zi 4,zI zi n0,zI zi 0,zI zi 0,zI zi 0,zI zi 0,zI zi 0,zI zi 0,zI zi 0]*(lay w0*(RJ*R)))*R1))).bl.cell 1 _ rfl,(H2.out.eq (by ac_rfl:_=bl q14 86 [zI zi 4,zI zi n0,zI zi 0,zI zi 0,zI zi 0,zI zi 0,zI zi 0,zI zi 0,zI zi 0]*(chp bc G'*(rst b bc told*(lay w0*(RJ*R)))*R1))).bl⟩,hq.trans q2,_,H2.out,?_⟩
    clear hS hq hA q2 h2 H2 hst'
    dsimp only [Ans.val]
    repeat (first|(refine LexHL.still (v:=?_) (by rfl) (by rfl) ?_ ?_;rotate_left;(focus (intro W hW;(try dsimp only at hW);go_simp;(try (with_reducible rfl));done));(try simp only [zP,zA,zB,zC])))
    refine LexHL.made rfl ?_
    intro qo hlv
    clear hlv
    try simp only [zP,zA,zB,zC]
    refine LexHL.storeB (q:=qo) (t:=88) (cs:=[zI zi 0,zI zi 0,zI zi 0]) (B:=chp bc G'*(bl q14 86 [zI zi 4,zI zi n0,zI zi 0,zI zi 0,zI zi 0,zI zi 0,zI zi 0,zI zi 0,zI zi 0]*(rst b bc told*(lay w0*(RJ*R))))) 88 _ _ rfl [zI zi ac,zI zi aj,zI zi at'] rfl rfl rfl (by kernel_rfl) (by simp [Ones,Value.oneCell']) rfl rfl (by decide) rfl (fun W R2 h=>⟨(show Holds _ (bl b 55 _*_) from h.eq (by ac_rfl:_=rst b bc told*(bl qo 88 [zI zi ac,zI zi aj,zI zi at']*(chp bc G'*(bl q14 86 [zI zi 4,zI zi n0,zI zi 0,zI zi 0,zI zi 0,zI zi 0,zI zi 0,zI zi 0,zI zi 0]*(lay w0*(RJ*R))))*R2))).bl.cell 1 _ rfl,(h.eq (by ac_rfl:_=bl q14 86 [zI zi 4,zI zi n0,zI zi 0,zI zi 0,zI zi 0,zI zi 0,zI zi 0,zI zi 0,zI zi 0]*(bl qo 88 [zI zi ac,zI zi aj,zI zi at']*(chp bc G'*(rst b bc told*(lay w0*(RJ*R))))*R2))).bl⟩) ?_
    try simp only [zP,zA,zB,zC]
    refine LexHL.done ?_
    intro W hS hA hq
    have HA:=zH (hA.eq (by ac_rfl:_=rst b bc told*(lay w0*(bl qo 88 [zI zi ac,zI zi aj,zI zi at']*(chp bc G'*(bl q14 86 [zI zi 4,zI zi n0,zI zi 0,zI zi 0,zI zi 0,zI zi 0,zI zi 0,zI zi 0,zI zi 0]*(RJ*R)))))));have QA:=zH (QH.out.trans hq)
    clear hS hA hq HH QH
    have qa0:=HA.out.three.bl.cell 0 _ rfl
    have qa1:=HA.out.three.bl.cell 1 _ rfl
    have qa2:=HA.out.three.bl.cell 2 _ rfl
    by_cases hac:ac=0
    ·subst hac
     go_wp2_with fail
     refine (rsay_sl b bc told tOk _ HA.out (by omega) (by decide)).mono ?_
     rintro e W4 ⟨rfl,q4',h4⟩
     go_wp2
     first|go_end0|((try simp only [Exit.inBlock,Exit.then]);refine bodyPost_ret (results_none rfl _ _ _) rfl ?_)
     refine ⟨rfl,QA.out.trans q4',?_⟩
     have hh:=(h4.eq (by ac_rfl:_=bl qo 88 [zI zi 0,zI zi aj,zI zi at']*bl q14 86 [zI zi 4,zI zi n0,zI zi 0,zI zi 0,zI zi 0,zI zi 0,zI zi 0,zI zi 0,zI zi 0]*RJ*(rst b bc (told++line tOk)*(chp bc G'*(lay w0*R))))).right
     rw [HST.out]
     simpa [ansTxt] using hh
    ·go_wp2_with fail
     refine (rlist_sl tNo _ [ac] _ (by decide) (lay_laid (HA.out.two.alloc (.cells #[zI zi ac] 3))) (ivs_row rfl (by simp) _ rfl _) (by simp) (by intro z hz;simp only [List.mem_cons,List.mem_nil_iff,or_false] at hz;subst hz;exact sm_i64 HSM.out.code)).mono ?_
     rintro e W3 ⟨rfl,hb3⟩
     have H3:=zH ((HA.out.alloc (.cells #[zI zi ac] 3)).below hb3);have Q3:=zH ((QA.out.alloc (.cells #[zI zi ac] 3)).trans (Quiet.below hb3))
     clear hb3
     go_wp2_with fail
     refine (rsay_sl b bc told (tNo++nums [ac]) _ H3.out (by omega) (by have:=ansTxt_len HSM.out true;simp only [ansTxt,ne_eq,hac,not_false_eq_true,if_true] at this;omega)).mono ?_
     rintro e W4 ⟨rfl,q4',h4⟩
     go_wp2
     first|go_end0|((try simp only [Exit.inBlock,Exit.then]);refine bodyPost_ret (results_none rfl _ _ _) rfl ?_)
     refine ⟨rfl,Q3.out.trans q4',?_⟩
     have hh:=(h4.eq (by ac_rfl:_=bl qo 88 [zI zi ac,zI zi aj,zI zi at']*bl q14 86 [zI zi 4,zI zi n0,zI zi 0,zI zi 0,zI zi 0,zI zi 0,zI zi 0,zI zi 0,zI zi 0]*RJ*(rst b bc (told++line (tNo++nums [ac]))*(chp bc G'*(lay w0*R))))).right
     rw [HST.out]
     simpa [ansTxt,hac] using hh
   ·have HXE:=zH hxe;have HNE:=zH hne
    clear hxe hne
    have een:inum (.slice sa n.length sc) n=inum (.slice sa n.length sc) [n0]:=by rw [HNE.out]
    have HEn:=zH (HE.out.two.imp (B:=inum (.slice sa n.length sc) [n0]) (fun F h=>by rw [←een];exact h))
    clear een
    obtain ⟨gn,cn,en,dn1,dn2⟩:=inum_cons HEn.out
    simp only [Value.slice.injEq] at en
    obtain ⟨rfl,hnl,rfl⟩:=en
    clear hnl HEn
    have m0:we.cell? ⟨gn,0,none⟩=some (zI zi n0):=inum_cell HE.out.two 0 _ (by rw [HNE.out];rfl)
    have bn0:(0:Int)<(n.length:Int):=by rw [HNE.out];simp
    have k3:=HE.out.bl.cell 3 _ rfl
    have k1:=HE.out.bl.cell 1 _ rfl
    have f1:=HE.out.bl.free 1
    have f0:=HE.out.bl.free 0
    obtain ⟨curn,hbn⟩:=inum_blk HE.out.two
    have nA:q14≠q9:=BlockAt.ne HE.out.bl HE.out.three.bl (by decide)
    have nB:q9≠q14:=Ne.symm nA
    have nC:q14≠gn:=BlockAt.ne HE.out.bl hbn (by decide)
    have nD:gn≠q14:=Ne.symm nC
    clear hbn
    refine (ris_sl q4 q9 g1 0 (r.length+1) c1 n.length _ _ x tAdd 2 _ c4 (Nat.succ_pos _) xx c9).mono ?_
    rw [tst tAdd 2 HXE HNE (rfl:_=false)]
    rintro e we' ⟨rfl,rfl⟩
    obtain ⟨we,rfl⟩:∃ we:World,we=we':=⟨_,rfl⟩
    go_wp2_with fail
    refine (ris_sl q4 q9 g1 0 (r.length+1) c1 n.length _ _ x tTake 3 _ c4 (Nat.succ_pos _) xx c9).mono ?_
    rw [tst tTake 3 HXE HNE (rfl:_=false)]
    rintro e we' ⟨rfl,rfl⟩
    obtain ⟨we,rfl⟩:∃ we:World,we=we':=⟨_,rfl⟩
    go_wp2_with fail
    refine (ris_sl q4 q9 g1 0 (r.length+1) c1 n.length _ _ x tRenew 5 _ c4 (Nat.succ_pos _) xx c9).mono ?_
    rw [tst tRenew 5 HXE HNE (rfl:_=false)]
    rintro e we' ⟨rfl,rfl⟩
    obtain ⟨we,rfl⟩:∃ we:World,we=we':=⟨_,rfl⟩
    go_wp2_with fail
    refine (ris_sl q4 q9 g1 0 (r.length+1) c1 n.length _ _ x tDone 4 _ c4 (Nat.succ_pos _) xx c9).mono ?_
    rw [tst tDone 4 HXE HNE (rfl:_=false)]
    rintro e we' ⟨rfl,rfl⟩
    obtain ⟨we,rfl⟩:∃ we:World,we=we':=⟨_,rfl⟩
    go_wp2_with fail
    refine (ris_sl q4 q9 g1 0 (r.length+1) c1 n.length _ _ x tDrop 4 _ c4 (Nat.succ_pos _) xx c9).mono ?_
    rw [tst tDrop 4 HXE HNE (rfl:_=false)]
    rintro e we' ⟨rfl,rfl⟩
    obtain ⟨we,rfl⟩:∃ we:World,we=we':=⟨_,rfl⟩
    go_wp2_with fail
    refine (ris_sl q4 q9 g1 0 (r.length+1) c1 n.length _ _ x tOpen 1 _ c4 (Nat.succ_pos _) xx c9).mono ?_
    rw [tst tOpen 1 HXE HNE (rfl:_=false)]
    rintro e we' ⟨rfl,rfl⟩
    obtain ⟨we,rfl⟩:∃ we:World,we=we':=⟨_,rfl⟩
    go_wp2_with fail
    refine (ris_sl q4 q9 g1 0 (r.length+1) c1 n.length _ _ x tDown 1 _ c4 (Nat.succ_pos _) xx c9).mono ?_
    rw [tst tDown 1 HXE HNE (rfl:_=false)]
    rintro e we' ⟨rfl,rfl⟩
    obtain ⟨we,rfl⟩:∃ we:World,we=we':=⟨_,rfl⟩
    go_wp2_with fail
    refine (ris_sl q4 q9 g1 0 (r.length+1) c1 n.length _ _ x tTick 1 _ c4 (Nat.succ_pos _) xx c9).mono ?_
    rw [tst tTick 1 HXE HNE (rfl:_=true)]
    rintro e we' ⟨rfl,rfl⟩
    obtain ⟨we,rfl⟩:∃ we:World,we=we':=⟨_,rfl⟩
    go_wp2_with fail
    obtain ⟨RJ,hRJ⟩:∃ RJ:HP,(inum (.slice (some ⟨gn,0,none⟩) n.length sc) n*(bl q9 70 [.slice (some ⟨gn,0,none⟩) n.length sc]*(bl q4 22 [(.slice (some ⟨g1,0,none⟩) (r.length+1) c1)]*wds (.slice (some ⟨g1,0,none⟩) (r.length+1) c1) (x::r))))=RJ:=⟨_,rfl⟩
    have HH:Hid (Holds ((we.setCell ⟨q14,0,none⟩ (zI zi 5)).setCell ⟨q14,1,none⟩ (zI zi n0)).drew (bl q14 86 [zI zi 5,zI zi n0,zI zi 0,zI zi 0,zI zi 0,zI zi 0,zI zi 0,zI zi 0,zI zi 0]*(rst b bc told*(chp bc g*(lay w0*(RJ*R)))))):=zH (by rw [←hRJ];exact (show Holds ((we.setCell ⟨q14,0,none⟩ (zI zi 5)).setCell ⟨q14,1,none⟩ (zI zi n0)).drew (bl q14 86 [zI zi 5,zI zi n0,zI zi 0,zI zi 0,zI zi 0,zI zi 0,zI zi 0,zI zi 0,zI zi 0]*(inum (.slice (some ⟨gn,0,none⟩) n.length sc) n*(bl q9 70 [.slice (some ⟨gn,0,none⟩) n.length sc]*(bl q4 22 [(.slice (some ⟨g1,0,none⟩) (r.length+1) c1)]*(wds (.slice (some ⟨g1,0,none⟩) (r.length+1) c1) (x::r)*(rst b bc told*(chp bc g*(lay w0*R)))))))) from ((HE.out.setB 0 (zI zi 5)).setB 1 (zI zi n0)).drew).eq (by ac_rfl))
    have QH:Hid (Quiet w ((we.setCell ⟨q14,0,none⟩ (zI zi 5)).setCell ⟨q14,1,none⟩ (zI zi n0)).drew):=zH ((QE.out.setCell ⟨q14,0,none⟩ (zI zi 5)).setCell ⟨q14,1,none⟩ (zI zi n0)).drew
    clear hRJ
    obtain ⟨⟨G',⟨ac,aj,at'⟩⟩,hst⟩:∃ y,g.step ⟨5,n0,0,⟨0,0,0,0,0,0⟩⟩=y:=⟨_,rfl⟩
    have hsm:(g.step ⟨5,n0,0,⟨0,0,0,0,0,0⟩⟩).2.Sm:=by
     obtain ⟨lg,hlg⟩:=HG.out
     exact step_small hlg _
    rw [hst] at hsm
    have HST:=zH hst;have HSM:=zH hsm
    clear hst hsm
    refine wp_region_lexH (fun W=>W.cell? ⟨b,1,none⟩=some (.pointer (some ⟨bc,0,none⟩))∧BlockAt W q14 86 [zI zi 5,zI zi n0,zI zi 0,zI zi 0,zI zi 0,zI zi 0,zI zi 0,zI zi 0,zI zi 0]) [5,7] [6] (fz1 6 88 [zI zi 0,zI zi 0,zI zi 0]) _ (by kernel_rfl) (by kernel_rfl) (by kernel_rfl) fz1_fl fz1_no (fz1_ok rfl ⟨rfl,fun a w=>by kernel_rfl⟩) (fun W o h=>⟨cell_alloc_keep h.1 o,h.2.alloc o⟩) ⟨(show Holds _ (bl b 55 _*_) from HH.out.two).bl.cell 1 _ rfl,HH.out.bl⟩ HH.out ?_
    repeat (first|(refine LexHL.still (v:=?_) (by rfl) (by rfl) ?_ ?_;rotate_left;(focus (intro W hW;(try dsimp only at hW);go_simp;(try (with_reducible rfl));done));(try simp only [zP,zA,zB,zC])))
    refine LexHL.still (v:=.agg #[zI zi 5,zI zi n0,zI zi 0,zI zi 0,zI zi 0,zI zi 0,zI zi 0,zI zi 0,zI zi 0]) rfl (by rfl) (fun W hW=>exec_load_part 86 _ rfl q14 0 rfl [zI zi 5,zI zi n0,zI zi 0,zI zi 0,zI zi 0,zI zi 0,zI zi 0,zI zi 0,zI zi 0] hW.2 rfl Tryz.underlying86 rfl (by kernel_rfl)) ?_
    try simp only [zP,zA,zB,zC]
    refine LexHL.call (f:=34) (args:=#[.pointer (some ⟨bc,0,none⟩),.agg #[zI zi 5,zI zi n0,zI zi 0,zI zi 0,zI zi 0,zI zi 0,zI zi 0,zI zi 0,zI zi 0]]) rfl rfl (by decide) (fun W hS=>by go_simp) ?_
    intro W R1 hS hq hA
    refine (chstep_sl bc g 5 n0 0 0 0 0 0 0 0 W (hA.eq (by ac_rfl:_=chp bc g*(bl q14 86 [zI zi 5,zI zi n0,zI zi 0,zI zi 0,zI zi 0,zI zi 0,zI zi 0,zI zi 0,zI zi 0]*(rst b bc told*(lay w0*(RJ*R)))*R1))) HG.out).mono ?_
    rintro e W2 ⟨rfl,q2,h2⟩
    have hst':g.step ⟨5,n0,0,⟨0,0,0,0,0,0⟩⟩=(G',⟨ac,aj,at'⟩):=HST.out
    rw [hst'] at h2 ⊢
    have H2:=zH (h2.eq (by ac_rfl:_=chp bc G'*(bl q14 86 [zI zi 5,zI zi n0,zI zi 0,zI zi 0,zI zi 0,zI zi 0,zI zi 0,zI zi 0,zI zi 0]*(rst b bc told*(lay w0*(RJ*R))))*R1))
    refine ⟨_,rfl,⟨(show Holds _ (bl b 55 _*_) from H2.out.eq (by ac_rfl:_=rst b bc told*(chp bc G'*(bl q14 86 [zI zi 5,zI zi n0,zI zi 0,zI zi 0,zI zi 0,zI zi 0,zI zi 0,zI zi 0,zI zi 0]*(lay w0*(RJ*R)))*R1))).bl.cell 1 _ rfl,(H2.out.eq (by ac_rfl:_=bl q14 86 [zI zi 5,zI zi n0,zI zi 0,zI zi 0,zI zi 0,zI zi 0,zI zi 0,zI zi 0,zI zi 0]*(chp bc G'*(rst b bc told*(lay w0*(RJ*R)))*R1))).bl⟩,hq.trans q2,_,H2.out,?_⟩
    clear hS hq hA q2 h2 H2 hst'
    dsimp only [Ans.val]
    repeat (first|(refine LexHL.still (v:=?_) (by rfl) (by rfl) ?_ ?_;rotate_left;(focus (intro W hW;(try dsimp only at hW);go_simp;(try (with_reducible rfl));done));(try simp only [zP,zA,zB,zC])))
    refine LexHL.made rfl ?_
    intro qo hlv
    clear hlv
    try simp only [zP,zA,zB,zC]
    refine LexHL.storeB (q:=qo) (t:=88) (cs:=[zI zi 0,zI zi 0,zI zi 0]) (B:=chp bc G'*(bl q14 86 [zI zi 5,zI zi n0,zI zi 0,zI zi 0,zI zi 0,zI zi 0,zI zi 0,zI zi 0,zI zi 0]*(rst b bc told*(lay w0*(RJ*R))))) 88 _ _ rfl [zI zi ac,zI zi aj,zI zi at'] rfl rfl rfl (by kernel_rfl) (by simp [Ones,Value.oneCell']) rfl rfl (by decide) rfl (fun W R2 h=>⟨(show Holds _ (bl b 55 _*_) from h.eq (by ac_rfl:_=rst b bc told*(bl qo 88 [zI zi ac,zI zi aj,zI zi at']*(chp bc G'*(bl q14 86 [zI zi 5,zI zi n0,zI zi 0,zI zi 0,zI zi 0,zI zi 0,zI zi 0,zI zi 0,zI zi 0]*(lay w0*(RJ*R))))*R2))).bl.cell 1 _ rfl,(h.eq (by ac_rfl:_=bl q14 86 [zI zi 5,zI zi n0,zI zi 0,zI zi 0,zI zi 0,zI zi 0,zI zi 0,zI zi 0,zI zi 0]*(bl qo 88 [zI zi ac,zI zi aj,zI zi at']*(chp bc G'*(rst b bc told*(lay w0*(RJ*R))))*R2))).bl⟩) ?_
    try simp only [zP,zA,zB,zC]
    refine LexHL.done ?_
    intro W hS hA hq
    have HA:=zH (hA.eq (by ac_rfl:_=rst b bc told*(lay w0*(bl qo 88 [zI zi ac,zI zi aj,zI zi at']*(chp bc G'*(bl q14 86 [zI zi 5,zI zi n0,zI zi 0,zI zi 0,zI zi 0,zI zi 0,zI zi 0,zI zi 0,zI zi 0]*(RJ*R)))))));have QA:=zH (QH.out.trans hq)
    clear hS hA hq HH QH
    have qa0:=HA.out.three.bl.cell 0 _ rfl
    have qa1:=HA.out.three.bl.cell 1 _ rfl
    have qa2:=HA.out.three.bl.cell 2 _ rfl
    by_cases hac:ac=0
    ·subst hac
     go_wp2_with fail
     refine (rsay_sl b bc told tOk _ HA.out (by omega) (by decide)).mono ?_
     rintro e W4 ⟨rfl,q4',h4⟩
     go_wp2
     first|go_end0|((try simp only [Exit.inBlock,Exit.then]);refine bodyPost_ret (results_none rfl _ _ _) rfl ?_)
     refine ⟨rfl,QA.out.trans q4',?_⟩
     have hh:=(h4.eq (by ac_rfl:_=bl qo 88 [zI zi 0,zI zi aj,zI zi at']*bl q14 86 [zI zi 5,zI zi n0,zI zi 0,zI zi 0,zI zi 0,zI zi 0,zI zi 0,zI zi 0,zI zi 0]*RJ*(rst b bc (told++line tOk)*(chp bc G'*(lay w0*R))))).right
     rw [HST.out]
     simpa [ansTxt] using hh
    ·go_wp2_with fail
     refine (rlist_sl tNo _ [ac] _ (by decide) (lay_laid (HA.out.two.alloc (.cells #[zI zi ac] 3))) (ivs_row rfl (by simp) _ rfl _) (by simp) (by intro z hz;simp only [List.mem_cons,List.mem_nil_iff,or_false] at hz;subst hz;exact sm_i64 HSM.out.code)).mono ?_
     rintro e W3 ⟨rfl,hb3⟩
     have H3:=zH ((HA.out.alloc (.cells #[zI zi ac] 3)).below hb3);have Q3:=zH ((QA.out.alloc (.cells #[zI zi ac] 3)).trans (Quiet.below hb3))
     clear hb3
     go_wp2_with fail
     refine (rsay_sl b bc told (tNo++nums [ac]) _ H3.out (by omega) (by have:=ansTxt_len HSM.out true;simp only [ansTxt,ne_eq,hac,not_false_eq_true,if_true] at this;omega)).mono ?_
     rintro e W4 ⟨rfl,q4',h4⟩
     go_wp2
     first|go_end0|((try simp only [Exit.inBlock,Exit.then]);refine bodyPost_ret (results_none rfl _ _ _) rfl ?_)
     refine ⟨rfl,Q3.out.trans q4',?_⟩
     have hh:=(h4.eq (by ac_rfl:_=bl qo 88 [zI zi ac,zI zi aj,zI zi at']*bl q14 86 [zI zi 5,zI zi n0,zI zi 0,zI zi 0,zI zi 0,zI zi 0,zI zi 0,zI zi 0,zI zi 0]*RJ*(rst b bc (told++line (tNo++nums [ac]))*(chp bc G'*(lay w0*R))))).right
     rw [HST.out]
     simpa [ansTxt,hac] using hh
   ·have HXE:=zH hxe;have HNE:=zH hne
    clear hxe hne
    refine (ris_sl q4 q9 g1 0 (r.length+1) c1 n.length _ _ x tAdd 2 _ c4 (Nat.succ_pos _) xx c9).mono ?_
    rw [tst tAdd 2 HXE HNE (rfl:_=false)]
    rintro e we' ⟨rfl,rfl⟩
    obtain ⟨we,rfl⟩:∃ we:World,we=we':=⟨_,rfl⟩
    go_wp2_with fail
    refine (ris_sl q4 q9 g1 0 (r.length+1) c1 n.length _ _ x tTake 3 _ c4 (Nat.succ_pos _) xx c9).mono ?_
    rw [tst tTake 3 HXE HNE (rfl:_=false)]
    rintro e we' ⟨rfl,rfl⟩
    obtain ⟨we,rfl⟩:∃ we:World,we=we':=⟨_,rfl⟩
    go_wp2_with fail
    refine (ris_sl q4 q9 g1 0 (r.length+1) c1 n.length _ _ x tRenew 5 _ c4 (Nat.succ_pos _) xx c9).mono ?_
    rw [tst tRenew 5 HXE HNE (rfl:_=false)]
    rintro e we' ⟨rfl,rfl⟩
    obtain ⟨we,rfl⟩:∃ we:World,we=we':=⟨_,rfl⟩
    go_wp2_with fail
    refine (ris_sl q4 q9 g1 0 (r.length+1) c1 n.length _ _ x tDone 4 _ c4 (Nat.succ_pos _) xx c9).mono ?_
    rw [tst tDone 4 HXE HNE (rfl:_=false)]
    rintro e we' ⟨rfl,rfl⟩
    obtain ⟨we,rfl⟩:∃ we:World,we=we':=⟨_,rfl⟩
    go_wp2_with fail
    refine (ris_sl q4 q9 g1 0 (r.length+1) c1 n.length _ _ x tDrop 4 _ c4 (Nat.succ_pos _) xx c9).mono ?_
    rw [tst tDrop 4 HXE HNE (rfl:_=false)]
    rintro e we' ⟨rfl,rfl⟩
    obtain ⟨we,rfl⟩:∃ we:World,we=we':=⟨_,rfl⟩
    go_wp2_with fail
    refine (ris_sl q4 q9 g1 0 (r.length+1) c1 n.length _ _ x tOpen 1 _ c4 (Nat.succ_pos _) xx c9).mono ?_
    rw [tst tOpen 1 HXE HNE (rfl:_=false)]
    rintro e we' ⟨rfl,rfl⟩
    obtain ⟨we,rfl⟩:∃ we:World,we=we':=⟨_,rfl⟩
    go_wp2_with fail
    refine (ris_sl q4 q9 g1 0 (r.length+1) c1 n.length _ _ x tDown 1 _ c4 (Nat.succ_pos _) xx c9).mono ?_
    rw [tst tDown 1 HXE HNE (rfl:_=false)]
    rintro e we' ⟨rfl,rfl⟩
    obtain ⟨we,rfl⟩:∃ we:World,we=we':=⟨_,rfl⟩
    go_wp2_with fail
    refine (ris_sl q4 q9 g1 0 (r.length+1) c1 n.length _ _ x tTick 1 _ c4 (Nat.succ_pos _) xx c9).mono ?_
    rw [tst tTick 1 HXE HNE (rfl:_=false)]
    rintro e we' ⟨rfl,rfl⟩
    obtain ⟨we,rfl⟩:∃ we:World,we=we':=⟨_,rfl⟩
    go_wp2_with fail
    refine (ris_sl q4 q9 g1 0 (r.length+1) c1 n.length _ _ x tJob 2 _ c4 (Nat.succ_pos _) xx c9).mono ?_
    rw [tst tJob 2 HXE HNE (rfl:_=false)]
    rintro e we' ⟨rfl,rfl⟩
    obtain ⟨we,rfl⟩:∃ we:World,we=we':=⟨_,rfl⟩
    go_wp2_with fail
    refine (ris_sl q4 q9 g1 0 (r.length+1) c1 n.length _ _ x tDisk 0 _ c4 (Nat.succ_pos _) xx c9).mono ?_
    rw [tst tDisk 0 HXE HNE (rfl:_=true)]
    rintro e we' ⟨rfl,rfl⟩
    obtain ⟨we,rfl⟩:∃ we:World,we=we':=⟨_,rfl⟩
    go_wp2_with fail
    obtain ⟨vs,vb,hop⟩:=chp_openF (HE.out.eq (by ac_rfl:_=chp bc g*(rst b bc told*(lay w0*(inum (.slice sa n.length sc) n*(bl q9 70 [.slice sa n.length sc]*(bl q14 86 (zstep 0)*(bl q4 22 [(.slice (some ⟨g1,0,none⟩) (r.length+1) c1)]*(wds (.slice (some ⟨g1,0,none⟩) (r.length+1) c1) (x::r)*R)))))))))
    obtain ⟨ba,bcap,rfl,-,-⟩:=hop.two.ownb.bytes.shape
    obtain ⟨RJ,hRJ⟩:∃ RJ:HP,bl q14 86 (zstep 0)*(bl q4 22 [(.slice (some ⟨g1,0,none⟩) (r.length+1) c1)]*(wds (.slice (some ⟨g1,0,none⟩) (r.length+1) c1) (x::r)*R))=RJ:=⟨_,rfl⟩
    rw [hRJ] at hop
    have HRJ:=zH hRJ
    have HF:=zH (hop.eq (by ac_rfl:_=bl bc 53 [zI zi g.d.ep,.slice ba g.d.b.length bcap,vs 0,vs 1,vs 2,zI zi g.now]*(rst b bc told*(lay w0*(inum (.slice sa n.length sc) n*(bl q9 70 [.slice sa n.length sc]*(ownb (.slice ba g.d.b.length bcap) g.d.b*(vergs3 bc vs g.f*RJ))))))))
    clear hop hRJ c4 xx x0
    have hgd:g.d.Ok:=by
     obtain ⟨lg,hlg⟩:=HG.out
     exact hlg.fam.ok
    have hnow:0≤g.now∧g.now≤60000:=by
     obtain ⟨lg,hlg⟩:=HG.out
     exact hlg.now
    have HGD:=zH hgd;have HNW:=zH hnow
    clear hgd hnow
    have mkS:∀ (W:World) (td:List UInt8) (A B:HP),Holds W (A*(bl bc 53 [zI zi g.d.ep,.slice ba g.d.b.length bcap,vs 0,vs 1,vs 2,zI zi g.now]*(rst b bc td*B)))→W.cell? ⟨b,1,none⟩=some (.pointer (some ⟨bc,0,none⟩))∧W.cell? ⟨bc,0,none⟩=some (zI zi g.d.ep)∧W.cell? ⟨bc,1,none⟩=some (.slice ba g.d.b.length bcap)∧W.cell? ⟨bc,5,none⟩=some (zI zi g.now):=fun W td A B h=>⟨(show Holds W (bl b 55 _*_) from h.three).bl.cell 1 _ rfl,h.two.bl.cell 0 _ rfl,h.two.bl.cell 1 _ rfl,h.two.bl.cell 5 _ rfl⟩
    have MKS:=zH mkS;clear mkS
    have hsm:∀ z∈[g.d.ep,(g.d.b.length:Int),g.now],Sm z:=fun z hz=>by
     have h1:=HGD.out.ep;have h2:=HGD.out.b;have h3:=HNW.out
     simp only [List.mem_cons,List.mem_nil_iff,or_false] at hz
     unfold Sm
     rcases hz with rfl|rfl|rfl<;>omega
    have HSM:=zH hsm
    have hnl:=nums_len hsm
    simp only [List.length_cons,List.length_nil] at hnl
    clear hsm
    have HD:=zH (HF.out.drew.eq (by ac_rfl:_=lay w0*(bl bc 53 [zI zi g.d.ep,.slice ba g.d.b.length bcap,vs 0,vs 1,vs 2,zI zi g.now]*(rst b bc told*(inum (.slice sa n.length sc) n*(bl q9 70 [.slice sa n.length sc]*(ownb (.slice ba g.d.b.length bcap) g.d.b*(vergs3 bc vs g.f*RJ))))))))
    have QD:=zH QE.out.drew
    refine wp_region_lex (fun W=>W.cell? ⟨b,1,none⟩=some (.pointer (some ⟨bc,0,none⟩))∧W.cell? ⟨bc,0,none⟩=some (zI zi g.d.ep)∧W.cell? ⟨bc,1,none⟩=some (.slice ba g.d.b.length bcap)∧W.cell? ⟨bc,5,none⟩=some (zI zi g.now)) [25,26,27] (by kernel_rfl) (by kernel_rfl) (MKS.out _ _ _ _ HD.out) ?_
    repeat (first|(refine LexL.none (by rfl) ?_;(try simp only [zP,zA,zB,zC]))|(refine LexL.still (v:=?_) (by rfl) ?_ ?_;rotate_left;(focus (intro W hW;(try dsimp only at hW);go_simp;(try (with_reducible rfl));done));(try simp only [zP,zA,zB,zC])))
    refine LexL.value (w1:=we.drew.alloc (.cells (ivs [g.d.ep,(g.d.b.length:Int),g.now]).toArray 3)) (v:=.slice (some ⟨we.drew.heap.size,0,none⟩) 3 3) (by rfl) (by decide) (by go_simp;rfl) (MKS.out _ _ _ _ (HD.out.alloc _)) ?_
    try simp only [zP,zA,zB,zC]
    refine LexL.call (f:=35) (args:=#[.string (strOf tDisk),.slice (some ⟨we.drew.heap.size,0,none⟩) 3 3]) (w1:=we.drew.alloc (.cells (ivs [g.d.ep,(g.d.b.length:Int),g.now]).toArray 3)) (by rfl) (by decide) (by go_simp;rfl) ?_
    refine (rlist_sl tDisk _ [g.d.ep,(g.d.b.length:Int),g.now] _ (by decide) (lay_laid (HD.out.alloc _)) (ivs_row rfl (by simp) _ rfl _) (by simp) (sms_i64 HSM.out)).mono ?_
    rintro e W3 ⟨rfl,hb3⟩
    have H3:=zH ((HD.out.alloc (.cells (ivs [g.d.ep,(g.d.b.length:Int),g.now]).toArray 3)).below hb3);have Q3:=zH ((QD.out.alloc (.cells (ivs [g.d.ep,(g.d.b.length:Int),g.now]).toArray 3)).trans (Quiet.below hb3))
    clear hb3
    refine ⟨_,rfl,MKS.out _ _ _ _ H3.out,?_⟩
    try simp only [zP,zA,zB,zC]
    refine LexL.call (f:=30) (args:=#[.pointer (some ⟨b,0,none⟩),.string (strOf (tDisk++nums [g.d.ep,(g.d.b.length:Int),g.now]))]) (w1:=W3) (by rfl) (by decide) (by go_simp) ?_
    refine (rsay_sl b bc told (tDisk++nums [g.d.ep,(g.d.b.length:Int),g.now]) _ (H3.out.eq (by ac_rfl:_=rst b bc told*(lay w0*(bl bc 53 [zI zi g.d.ep,.slice ba g.d.b.length bcap,vs 0,vs 1,vs 2,zI zi g.now]*(inum (.slice sa n.length sc) n*(bl q9 70 [.slice sa n.length sc]*(ownb (.slice ba g.d.b.length bcap) g.d.b*(vergs3 bc vs g.f*RJ)))))))) (by omega) (by simp only [List.length_append,tDisk,List.length_cons,List.length_nil];omega)).mono ?_
    rintro e W4 ⟨rfl,q4',h4⟩
    have H4:=zH (h4.eq (by ac_rfl:_=lay w0*(bl bc 53 [zI zi g.d.ep,.slice ba g.d.b.length bcap,vs 0,vs 1,vs 2,zI zi g.now]*(rst b bc (told++line (tDisk++nums [g.d.ep,(g.d.b.length:Int),g.now]))*(inum (.slice sa n.length sc) n*(bl q9 70 [.slice sa n.length sc]*(ownb (.slice ba g.d.b.length bcap) g.d.b*(vergs3 bc vs g.f*RJ))))))));have Q4:=zH (Q3.out.trans q4')
    clear h4 q4'
    refine ⟨_,rfl,MKS.out _ _ _ _ H4.out,?_⟩
    try simp only [zP,zA,zB,zC]
    refine LexL.done ?_
    go_wp2
    first|go_end0|((try simp only [Exit.inBlock,Exit.then]);refine bodyPost_ret (results_none rfl _ _ _) rfl ?_)
    have hz:=(H4.out.eq (by ac_rfl:_=bl bc 53 [zI zi g.d.ep,.slice ba g.d.b.length bcap,vs 0,vs 1,vs 2,zI zi g.now]*(ownb (.slice ba g.d.b.length bcap) g.d.b*(vergs3 bc vs g.f*(rst b bc (told++line (tDisk++nums [g.d.ep,(g.d.b.length:Int),g.now]))*(lay w0*(inum (.slice sa n.length sc) n*(bl q9 70 [.slice sa n.length sc]*RJ))))))))
    have hy:=chp_closeF hz
    rw [←HRJ.out] at hy
    have hx:=hy.eq (by ac_rfl:_=inum (.slice sa n.length sc) n*(bl q9 70 [.slice sa n.length sc]*(bl q14 86 (zstep 0)*(bl q4 22 [(.slice (some ⟨g1,0,none⟩) (r.length+1) c1)]*wds (.slice (some ⟨g1,0,none⟩) (r.length+1) c1) (x::r))))*(rst b bc (told++line (tDisk++nums [g.d.ep,(g.d.b.length:Int),g.now]))*(chp bc g*(lay w0*R))))
    exact ⟨rfl,Q4.out,hx.right⟩
   ·have HAdd:=zH hAdd
    have HTake:=zH hTake
    have HRenew:=zH hRenew
    have HDone:=zH hDone
    have HDrop:=zH hDrop
    have HOpen:=zH hOpen
    have HDown:=zH hDown
    have HTick:=zH hTick
    have HJob:=zH hJob
    have HDisk:=zH hDisk
    have HLog:=zH hLog
    have HHolders:=zH hHolders
    clear hAdd hTake hRenew hDone hDrop hOpen hDown hTick hJob hDisk hLog hHolders
    refine (ris_sl q4 q9 g1 0 (r.length+1) c1 n.length _ _ x tAdd 2 _ c4 (Nat.succ_pos _) xx c9).mono ?_
    rw [HAdd.out]
    rintro e we' ⟨rfl,rfl⟩
    obtain ⟨we,rfl⟩:∃ we:World,we=we':=⟨_,rfl⟩
    go_wp2_with fail
    refine (ris_sl q4 q9 g1 0 (r.length+1) c1 n.length _ _ x tTake 3 _ c4 (Nat.succ_pos _) xx c9).mono ?_
    rw [HTake.out]
    rintro e we' ⟨rfl,rfl⟩
    obtain ⟨we,rfl⟩:∃ we:World,we=we':=⟨_,rfl⟩
    go_wp2_with fail
    refine (ris_sl q4 q9 g1 0 (r.length+1) c1 n.length _ _ x tRenew 5 _ c4 (Nat.succ_pos _) xx c9).mono ?_
    rw [HRenew.out]
    rintro e we' ⟨rfl,rfl⟩
    obtain ⟨we,rfl⟩:∃ we:World,we=we':=⟨_,rfl⟩
    go_wp2_with fail
    refine (ris_sl q4 q9 g1 0 (r.length+1) c1 n.length _ _ x tDone 4 _ c4 (Nat.succ_pos _) xx c9).mono ?_
    rw [HDone.out]
    rintro e we' ⟨rfl,rfl⟩
    obtain ⟨we,rfl⟩:∃ we:World,we=we':=⟨_,rfl⟩
    go_wp2_with fail
    refine (ris_sl q4 q9 g1 0 (r.length+1) c1 n.length _ _ x tDrop 4 _ c4 (Nat.succ_pos _) xx c9).mono ?_
    rw [HDrop.out]
    rintro e we' ⟨rfl,rfl⟩
    obtain ⟨we,rfl⟩:∃ we:World,we=we':=⟨_,rfl⟩
    go_wp2_with fail
    refine (ris_sl q4 q9 g1 0 (r.length+1) c1 n.length _ _ x tOpen 1 _ c4 (Nat.succ_pos _) xx c9).mono ?_
    rw [HOpen.out]
    rintro e we' ⟨rfl,rfl⟩
    obtain ⟨we,rfl⟩:∃ we:World,we=we':=⟨_,rfl⟩
    go_wp2_with fail
    refine (ris_sl q4 q9 g1 0 (r.length+1) c1 n.length _ _ x tDown 1 _ c4 (Nat.succ_pos _) xx c9).mono ?_
    rw [HDown.out]
    rintro e we' ⟨rfl,rfl⟩
    obtain ⟨we,rfl⟩:∃ we:World,we=we':=⟨_,rfl⟩
    go_wp2_with fail
    refine (ris_sl q4 q9 g1 0 (r.length+1) c1 n.length _ _ x tTick 1 _ c4 (Nat.succ_pos _) xx c9).mono ?_
    rw [HTick.out]
    rintro e we' ⟨rfl,rfl⟩
    obtain ⟨we,rfl⟩:∃ we:World,we=we':=⟨_,rfl⟩
    go_wp2_with fail
    refine (ris_sl q4 q9 g1 0 (r.length+1) c1 n.length _ _ x tJob 2 _ c4 (Nat.succ_pos _) xx c9).mono ?_
    rw [HJob.out]
    rintro e we' ⟨rfl,rfl⟩
    obtain ⟨we,rfl⟩:∃ we:World,we=we':=⟨_,rfl⟩
    go_wp2_with fail
    refine (ris_sl q4 q9 g1 0 (r.length+1) c1 n.length _ _ x tDisk 0 _ c4 (Nat.succ_pos _) xx c9).mono ?_
    rw [HDisk.out]
    rintro e we' ⟨rfl,rfl⟩
    obtain ⟨we,rfl⟩:∃ we:World,we=we':=⟨_,rfl⟩
    go_wp2_with fail
    refine (ris_sl q4 q9 g1 0 (r.length+1) c1 n.length _ _ x tLog 0 _ c4 (Nat.succ_pos _) xx c9).mono ?_
    rw [HLog.out]
    rintro e we' ⟨rfl,rfl⟩
    obtain ⟨we,rfl⟩:∃ we:World,we=we':=⟨_,rfl⟩
    go_wp2_with fail
    refine (ris_sl q4 q9 g1 0 (r.length+1) c1 n.length _ _ x tHolders 1 _ c4 (Nat.succ_pos _) xx c9).mono ?_
    rw [HHolders.out]
    rintro e we' ⟨rfl,rfl⟩
    obtain ⟨we,rfl⟩:∃ we:World,we=we':=⟨_,rfl⟩
    go_wp2_with fail
    refine (rsay_sl b bc told tWhat _ HE.out.right.right.right.right.right (by omega) (by decide)).mono ?_
    rintro e w9 ⟨rfl,q9',h9⟩
    go_wp2
    first|go_end0|((try simp only [Exit.inBlock,Exit.then]);refine bodyPost_ret (results_none rfl _ _ _) rfl ?_)
    exact ⟨rfl,QE.out.trans q9',h9⟩
end Go.Proofs.YtfihmpkkpgmdhaaGreatDoor
