/-
  What the proof of DeskDoes leans on: definitions, laws, contracts of functions. No condition besides those that each theorem names.
-/
import Derived.Test.YtfihmpkkpgmdhaaGreatDoorZD11
import Derived.Test.YtfihmpkkpgmdhaaGreatDoorZD07
import Derived.Test.YtfihmpkkpgmdhaaGreatDoorZD08
import Derived.Test.YtfihmpkkpgmdhaaGreatDoorZD01
import Derived.Test.YtfihmpkkpgmdhaaGreatDoorZD04
set_option maxRecDepth 100000
set_option maxHeartbeats 16000000
set_option linter.unusedVariables false
set_option linter.unusedSimpArgs false
set_option linter.unnecessarySimpa false
namespace Go.Proofs.YtfihmpkkpgmdhaaGreatDoor
open Go.RowKit
open List renaming setIfInBounds_toArray → zA, set_cons_zero → zB, set_cons_succ → zC
open Go.Act renaming put → zP
open Go.Lib renaming hid → zH
open Go.Value renaming int → zI
open Go.IntKind renaming i64 → zi
def recs (v:Value) (l:List Rec):HP:=rw_ 103 7 v l.length (rvs l)
theorem Ones.rvs (l:List Rec):Ones (rvs l):=rvs_ones l
theorem rcells_ones (r:Rec):Ones (rcells r):=fun u hu=>rvs_ones [r] u (by simpa [Go.Proofs.YtfihmpkkpgmdhaaGreatDoor.rvs] using hu)
theorem BytesAt.dropIf {w:World} {g off n c:Nat} {l:List UInt8} (h:BytesAt w (.slice (some ⟨g,off,none⟩) n c) l) {q:Nat} (hq:q≤l.length):BytesAt w (.slice (if c=q then some ⟨g,off,none⟩ else some ⟨g,off+q,none⟩) (n-q) (c-q)) (l.drop q):=by
 have hd:=h.drop hq
 split
 ·rename_i e
  subst e
  obtain ⟨a',c',e,h1,h2,h3,h4⟩:=h
  simp only [Value.slice.injEq] at e
  obtain ⟨rfl,rfl,rfl⟩:=e
  have e0:l.drop c=[]:=List.drop_eq_nil_of_le h1
  rw [e0]
  exact ⟨some ⟨g,off,none⟩,0,by simp;omega,by simp,by simp [maxLen],(fun e=>by cases e),fun h=>absurd rfl h⟩
 ·exact hd
theorem all_any (v:Value) (l:List UInt8) (w:World) (h:BytesAt w v l) (hl:l.length≤100000):Calls Tryz.prog 78 #[v] w (PostX w (old w) (fun v=>v) fun v=>recs v (allB l)):=by
 go_enter Tryz.func78,Tryz.ntmps78
 go_wp2
 go_loopw [0,3,4] (fun s v la wr=>∃ (q:List UInt8) (acc:List Rec) (last:Int),la=zI zi last∧q.length≤l.length∧acc.length+q.length≤l.length∧BytesAt w s q∧Holds wr (recs v acc*old w)∧Quiet w wr∧allB l=acc++allFrom (q.length+1) last q) (fun s _ _ _=>match s with | .slice _ n _=>n|_=>0)
 case atStart=>exact ⟨l,[],0,rfl,Nat.le_refl _,by simp,h,Holds.nilRow Holds.old _ _,Quiet.refl _,by simp [allB]⟩
 case round=>
  obtain ⟨q,acc,last,rfl,hq,hac,hs,ho,hqu,hall⟩:=hrel
  have hsw:=hs.old ho
  have HO:=zH ho;have HQU:=zH hqu;have HALL:=zH hall;have HS:=zH hs;have HSW:=zH hsw
  clear ho hqu hall hs hsw
  generalize hD:decB q=D at *
  obtain ⟨⟨ep,⟨c,n,j,t,k,m⟩⟩,code⟩:=D
  have HD:=zH hD;clear hD
  by_cases h1:code=0
  ·subst h1
   have h9:=decB_len (l:=q) (by rw [HD.out])
   obtain ⟨a,cc,rfl,c1,c2,c3⟩:=HS.out.get
   obtain ⟨g,off,rfl,-⟩:=c3 (by intro e;subst e;simp at h9)
   clear c3
   have c9:9≤cc:=by omega
   have hdr:=HS.out.dropIf h9
   have HDR:=zH hdr;clear hdr
   by_cases h2:ep<last
   ·have HA:=zH (show allFrom (q.length+1) last q=[] by rw [allFrom,if_pos (by rw [HD.out];exact .inr h2)])
    go_wp2_with fail
    refine (decode_any _ q _ HSW.out).mono ?_
    rw [HD.out]
    rintro e w2 ⟨rfl,hb2⟩
    have HO3:=zH (HO.out.below hb2);have HQ3:=zH (HQU.out.trans (Quiet.below hb2));clear hb2
    go_wp2_with fail
    go_ret
    exact ⟨_,rfl,HQ3.out.alloc _,by rw [HALL.out,HA.out,List.append_nil];exact HO3.out.alloc _⟩
   ·have HA:=zH (show allFrom (q.length+1) last q=⟨ep,⟨c,n,j,t,k,m⟩⟩::allFrom ((q.drop 9).length+1) ep (q.drop 9) by
     rw [allFrom,if_neg (by rw [HD.out];simpa using h2),HD.out]
     rw [allFrom_fuel q.length ((q.drop 9).length+1) _ _ (by simp;omega) (by simp;omega)])
    go_wp2_with fail
    refine (decode_any _ q _ HSW.out).mono ?_
    rw [HD.out]
    rintro e w2 ⟨rfl,hb2⟩
    have HQ3:=zH (HQU.out.trans (Quiet.below hb2))
    have ho3:=(((HO.out.below hb2).allocB 103 (rcells ⟨ep,⟨c,n,j,t,k,m⟩⟩)).alloc (.cells (rcells ⟨ep,⟨c,n,j,t,k,m⟩⟩).toArray 103)).two
    have hn3:=(OwnRow.new (w2.alloc (.cells (rcells ⟨ep,⟨c,n,j,t,k,m⟩⟩).toArray 103)) 103 7 1 (rcells ⟨ep,⟨c,n,j,t,k,m⟩⟩) rfl (rcells_ones _) (by omega)).row
    rw [World.size_alloc] at hn3
    obtain ⟨i0,hi,hz0,hz1,hz2⟩:=info_parts Tryz.infoRec
    have HO3:=zH ho3;have HN3:=zH hn3;clear ho3 hn3 hb2
    go_wp2_with (at_builtin;refine wpList_append_sl rfl _ _ 136 rfl 103 i0 _ 7 56 Tryz.underlying136 hi hz0 hz1 hz2 rfl (by decide) rfl rfl HO3.out HN3.out rfl (rcells_ones _) (by omega) (by omega) ?_;intro v' w' hv' hq';have hk:=hv'.two.bl.cells;simp only [rcells] at hk;have HV:=zH hv';have HQ:=zH hq';clear hv' hq')
    go_roundw
    case rel=>exact ⟨q.drop 9,acc++[⟨ep,⟨c,n,j,t,k,m⟩⟩],ep,rfl,by simp;omega,by simp;omega,HDR.out,by simpa [recs,rvs_append,rvs] using HV.out.two.right,(HQ3.out.alloc _).alloc _ |>.trans HQ.out,by rw [HALL.out,HA.out];simp⟩
    case measure=>simp;omega
  ·have h1':(code != 0)=true:=by simpa using h1
   have HA:=zH (show allFrom (q.length+1) last q=[] by rw [allFrom,if_pos (by rw [HD.out];exact .inl h1)])
   go_wp2_with fail
   refine (decode_any _ q _ HSW.out).mono ?_
   rw [HD.out]
   rintro e w2 ⟨rfl,hb2⟩
   have HO3:=zH (HO.out.below hb2);have HQ3:=zH (HQU.out.trans (Quiet.below hb2));clear hb2
   go_wp2_with fail
   go_ret
   exact ⟨_,rfl,HQ3.out.alloc _,by rw [HALL.out,HA.out,List.append_nil];exact HO3.out.alloc _⟩
theorem rvs_cell {w:World} {g off:Nat} {l:List Rec} (h:∀ j u,(rvs l)[j]? = some u→w.cell? ⟨g,off+j,none⟩=some u) {i:Nat} {r:Rec} (hi:l[i]? = some r) (j:Nat) (u:Value) (hj:j<7) (hu:(rcells r)[j]? = some u):w.cell? ⟨g,off+i*7+j,none⟩=some u:=by
 rw [Nat.add_assoc]
 refine h _ _ ?_
 rw [rvs_get l i j hj,hi]
 exact hu
theorem allFrom_end {n:Nat} {last:Int} {q:List UInt8} {x:Rec×Int} (hD:decB q=x) (h:x.2≠0∨x.1.ep<last):allFrom n last q=[]:=by
 cases n with
 | zero=>rfl
 | succ n=>rw [allFrom,if_pos (by rw [hD];exact h)]
theorem allFrom_go {last:Int} {l:List UInt8} {p:Nat} {x:Rec} (hD:decB (l.drop p)=(x,0)) (h:¬ x.ep<last):p+9≤l.length∧allFrom (l.length-p+1) last (l.drop p)=x::allFrom (l.length-(p+9)+1) x.ep (l.drop (p+9)):=by
 have h9:=decB_len (l:=l.drop p) (by rw [hD])
 rw [List.length_drop] at h9
 refine ⟨by omega,?_⟩
 rw [allFrom,if_neg (by rw [hD];simpa using h),hD,List.drop_drop]
 rw [allFrom_fuel (l.length-p) (l.length-(p+9)+1) _ _ (by simp;omega) (by simp;omega)]
theorem recsof_any (v:Value) (l:List UInt8) (w:World) (h:BytesAt w v l) (hl:l.length≤100000):Calls Tryz.prog 64 #[v] w (PostX w (old w) (fun v=>v) fun v=>recs v (allB l)):=by
 have HS:=zH h
 obtain ⟨a,cc,rfl,c1,c2,c3⟩:=h.get
 by_cases hl0:l=[]
 ·subst hl0
  have h0:allB []=[]:=rfl
  have H0:=zH h0
  have hcc:a=none→cc=0:=by
   obtain ⟨a',c',e,_,_,h3,_⟩:=h
   simp only [Value.slice.injEq] at e
   obtain ⟨rfl,_,rfl⟩:=e
   exact h3
  have hbe:∀ (a':Option Addr) (w:World),(a'=none→cc=0)→BytesAt w (.slice a' 0 cc) []:=fun a' w h=>⟨a',cc,rfl,by simp,by unfold maxLen;omega,h,fun h=>absurd rfl h⟩
  have HBE:=zH hbe
  have HCC:=zH hcc
  clear c3 h hbe hcc h0 c1
  rw [List.length_nil]
  by_cases hz:cc=0
  ·subst hz
   go_enter Tryz.func64,Tryz.ntmps64
   go_wp2
   go_loopw [3,4] (fun v i wr=>v=.slice none 0 0∧i=zI zi 0∧wr=w) (fun _ i _=>0)
   case atStart=>exact ⟨rfl,rfl,rfl⟩
   case round=>
    obtain ⟨rfl,rfl,rfl⟩:=hrel
    cases a
    all_goals
     go_wp2_with fail
     refine (recof_any _ [] _ (HBE.out _ _ (by simp))).mono ?_
     rw [show decB []=(Rec.zero,7) from rfl]
     rintro e w2 ⟨rfl,hb2⟩
     have HB:=zH hb2;clear hb2
     simp only [Rec.zero,Ord.zero]
     go_wp2_with fail
     go_quiet (fail)
     go_wp2_with fail
     go_ret
     exact ⟨_,rfl,((Quiet.below HB.out).alloc _).drewN _,by rw [H0.out];exact (((Holds.old.below HB.out).alloc _).drewN _).nilRow _ _⟩
  ·cases a with
   | none=>exact absurd (HCC.out rfl) hz
   | some a=>
    go_enter Tryz.func64,Tryz.ntmps64
    go_wp2
    go_loopw [3,4] (fun v i wr=>v=.slice none 0 0∧i=zI zi 0∧wr=w) (fun _ i _=>0)
    case atStart=>exact ⟨rfl,rfl,rfl⟩
    case round=>
     obtain ⟨rfl,rfl,rfl⟩:=hrel
     go_wp2_with fail
     refine (recof_any _ [] _ (HBE.out _ _ (fun h=>by cases h))).mono ?_
     rw [show decB []=(Rec.zero,7) from rfl]
     rintro e w2 ⟨rfl,hb2⟩
     have HB:=zH hb2;clear hb2
     simp only [Rec.zero,Ord.zero]
     go_wp2_with fail
     go_quiet (fail)
     go_wp2_with fail
     go_ret
     exact ⟨_,rfl,((Quiet.below HB.out).alloc _).drewN _,by rw [H0.out];exact (((Holds.old.below HB.out).alloc _).drewN _).nilRow _ _⟩
 ·obtain ⟨g,off,rfl,_⟩:=c3 hl0
  clear c3 h
  go_enter Tryz.func64,Tryz.ntmps64
  go_wp2
  go_loopw [3,4] (fun v i wr=>∃ (acc:List Rec) (p:Nat),p≤l.length∧i=zI zi p∧Hid (p=9*acc.length)∧Holds wr (recs v acc*old w)∧Quiet w wr∧allB l=acc++allFrom (l.length-p+1) (lastE 0 acc) (l.drop p)) (fun _ i _=>l.length+1-(intOf i).toNat)
  case atStart=>exact ⟨[],0,by simp,rfl,by simp [Hid],Holds.nilRow Holds.old _ _,Quiet.refl _,by simp [allB,lastE]⟩
  case round=>
   obtain ⟨acc,p,hac,rfl,HK,ho,hqu,hall⟩:=hrel
   by_cases hcp:cc=p
   ·subst hcp
    obtain ⟨n,hn⟩:∃ n,l.length=n:=⟨_,rfl⟩
    obtain rfl:cc=n:=by omega
    have hd:l.drop cc=[]:=List.drop_eq_nil_of_le c1
    rw [hn] at hac c1 hl
    have HN:=zH hn
    rw [hn]
    have hs2:=HS.out.dropIf (q:=cc) (by omega)
    rw [if_pos rfl,hd] at hs2
    rw [hd] at hall
    have hs3:=hs2.old ho
    have HO:=zH ho;have HQU:=zH hqu;have HALL:=zH hall;have HS2:=zH hs3
    clear ho hqu hall hs2 hs3 hd hac c1
    rw [hn] at HS2 HALL
    rw [Nat.sub_self] at HS2 HALL
    clear hn
    have HA:=zH (allFrom_short (0+1) (lastE 0 acc) [] (by simp))
    go_wp2_with fail
    refine (recof_any _ _ _ HS2.out).mono ?_
    rw [show decB []=(Rec.zero,7) from rfl]
    rintro e w2 ⟨rfl,hb2⟩
    have HO3:=zH (HO.out.below hb2);have HQ3:=zH (HQU.out.trans (Quiet.below hb2));clear hb2
    simp only [Rec.zero,Ord.zero]
    go_wp2_with fail
    go_quiet (fail)
    go_wp2_with fail
    go_ret
    exact ⟨_,rfl,by first|exact HQ3.out.alloc _|exact (HQ3.out.alloc _).drewN _,by rw [HALL.out,HA.out,List.append_nil];first|exact HO3.out.alloc _|exact (HO3.out.alloc _).drewN _⟩
   ·have hs2:=HS.out.dropIf hac
    rw [if_neg hcp] at hs2
    have hs2:=hs2.old ho
    have HO:=zH ho;have HQU:=zH hqu;have HALL:=zH hall;have HS2:=zH hs2
    clear ho hqu hall hs2
    obtain ⟨D,hD⟩:∃ D,decB (l.drop p)=D:=⟨_,rfl⟩
    obtain ⟨⟨ep,⟨c,n,j,t,kk,m⟩⟩,code⟩:=D
    have HD:=zH hD;clear hD
    by_cases h1:code=0
    ·subst h1
     obtain rfl|⟨init,r',rfl⟩:acc=[]∨∃ init r',acc=init++[r']:=by
      rcases List.eq_nil_or_concat acc with h|⟨i,r,h⟩
      ·exact .inl h
      ·exact .inr ⟨i,r,by rw [h,List.concat_eq_append]⟩
     ·by_cases hneg:ep<0
      ·exfalso
       have:=(decB_ok (l:=l.drop p) (by rw [HD.out]))
       rw [HD.out] at this
       have h1:=(chkR_range this.2.2.1).1.1
       rw [←this.2.2.2] at h1
       dsimp only at h1
       omega
      have HA:=zH (allFrom_go (last:=0) HD.out (by omega))
      have hp9:=HA.out.1
      go_wp2_with fail
      refine (recof_any _ _ _ HS2.out).mono ?_
      rw [HD.out]
      rintro e w2 ⟨rfl,hb2⟩
      have HO3:=zH (HO.out.below hb2);have HQ3:=zH (HQU.out.trans (Quiet.below hb2));clear hb2
      obtain ⟨a2,cap2,rfl,e1,e2⟩:=HO3.out.row.shape
      simp only [List.length_nil] at *
      go_wp2_with fail
      go_quiet (fail)
      obtain ⟨i0,hi,hz0,hz1,hz2⟩:=info_parts Tryz.infoRec
      go_wp2_with (at_builtin;refine wpList_append_sl rfl _ _ 136 rfl 103 i0 _ 7 56 Tryz.underlying136 hi hz0 hz1 hz2 rfl (by decide) rfl rfl (((HO3.out.allocB 103 (rcells ⟨ep,⟨c,n,j,t,kk,m⟩⟩)).drewN _).alloc (.cells (rcells ⟨ep,⟨c,n,j,t,kk,m⟩⟩).toArray 103)).two (RowAt.box (e:=103) (cs:=rcells ⟨ep,⟨c,n,j,t,kk,m⟩⟩) (by omega) (by simp)) rfl (rcells_ones _) (by simp<;>omega) (by simp<;>omega) ?_;intro v' w' hv' hq';have HV:=zH hv';have HQ:=zH hq';clear hv' hq')
      go_roundw
      case rel=>exact ⟨[]++[⟨ep,⟨c,n,j,t,kk,m⟩⟩],p+9,by omega,by go_num,by have:=HK.out;simp [Hid] at this ⊢;omega,by simpa [recs,rvs_append,rvs] using HV.out.two.right,((HQ3.out.alloc _).drewN _).alloc _ |>.trans HQ.out,by rw [HALL.out];(first|rw [HA.out.2]|(show []++allFrom (l.length-p+1) 0 _=_;rw [HA.out.2]));rw [lastE_snoc];simp⟩
      case measure=>simp [intOf];omega
     ·have hlen:(init++[r']).length=init.length+1:=by simp
      have hll:init.length≤l.length:=by have:=HK.out;omega
      by_cases h2:ep<r'.ep
      ·have HA:=zH (allFrom_end (n:=l.length-p+1) (last:=lastE 0 (init++[r'])) HD.out (.inr (by rw [lastE_snoc];exact h2)))
       go_wp2_with fail
       refine (recof_any _ _ _ HS2.out).mono ?_
       rw [HD.out]
       rintro e w2 ⟨rfl,hb2⟩
       have HO3:=zH (HO.out.below hb2);have HQ3:=zH (HQU.out.trans (Quiet.below hb2));clear hb2
       obtain ⟨g2,off2,cap2,hv2,e1,e2,e3⟩:=HO3.out.row.get (by simp)
       rw [hlen] at hv2 e1
       subst hv2
       have e4:=rvs_cell e3 (i:=init.length) (r:=r') (by simp) 0 _ (by omega) rfl
       rw [Nat.add_zero] at e4
       have e5:IntKind.i64.wrap (init.length:Int)=init.length:=by rw [IntKind.wrap_i64];omega
       have e6:0<init.length+1:=by omega
       have e7:(0:Int)<(init.length:Int)+1:=by omega
       have e8:(init.length:Int)<(init.length:Int)+1:=by omega
       have E3:=zH e3;clear e3
       have glt:=block_lt_of_cell e4
       dsimp only at glt
       go_wp2_with fail
       refine wp_region_lex (fun W=>W.cell? ⟨g2,off2+init.length*7,none⟩=some (zI zi r'.ep)∧W.cell? ⟨w2.heap.size,0,none⟩=some (zI zi ep)) [] (by kernel_rfl) (by kernel_rfl) (by constructor<;>go_simp) ?_
       repeat (first|(refine LexL.none (by rfl) ?_;(try simp only [zP,zA,zB,zC]))|(refine LexL.still (v:=?_) (by rfl) ?_ ?_;rotate_left;(focus (intro W hW;(try dsimp only at hW);go_simp;(try (with_reducible rfl));done));(try simp only [zP,zA,zB,zC])))
       refine LexL.done ?_
       go_wp2_with fail
       go_ret
       exact ⟨_,rfl,(HQ3.out.alloc _).drew,by rw [HALL.out,HA.out,List.append_nil];exact (HO3.out.alloc _).drew⟩
      ·have HA:=zH (allFrom_go (last:=lastE 0 (init++[r'])) HD.out (by rw [lastE_snoc];exact h2))
       have hp9:=HA.out.1
       go_wp2_with fail
       refine (recof_any _ _ _ HS2.out).mono ?_
       rw [HD.out]
       rintro e w2 ⟨rfl,hb2⟩
       have HO3:=zH (HO.out.below hb2);have HQ3:=zH (HQU.out.trans (Quiet.below hb2));clear hb2
       obtain ⟨g2,off2,cap2,hv2,e1,e2,e3⟩:=HO3.out.row.get (by simp)
       rw [hlen] at hv2 e1
       subst hv2
       have e4:=rvs_cell e3 (i:=init.length) (r:=r') (by simp) 0 _ (by omega) rfl
       rw [Nat.add_zero] at e4
       have e5:IntKind.i64.wrap (init.length:Int)=init.length:=by rw [IntKind.wrap_i64];omega
       have e6:0<init.length+1:=by omega
       have e7:(0:Int)<(init.length:Int)+1:=by omega
       have e8:(init.length:Int)<(init.length:Int)+1:=by omega
       have E3:=zH e3;clear e3
       have glt:=block_lt_of_cell e4
       dsimp only at glt
       go_wp2_with fail
       refine wp_region_lex (fun W=>W.cell? ⟨g2,off2+init.length*7,none⟩=some (zI zi r'.ep)∧W.cell? ⟨w2.heap.size,0,none⟩=some (zI zi ep)) [] (by kernel_rfl) (by kernel_rfl) (by constructor<;>go_simp) ?_
       repeat (first|(refine LexL.none (by rfl) ?_;(try simp only [zP,zA,zB,zC]))|(refine LexL.still (v:=?_) (by rfl) ?_ ?_;rotate_left;(focus (intro W hW;(try dsimp only at hW);go_simp;(try (with_reducible rfl));done));(try simp only [zP,zA,zB,zC])))
       refine LexL.done ?_
       obtain ⟨i0,hi,hz0,hz1,hz2⟩:=info_parts Tryz.infoRec
       go_wp2_with (at_builtin;refine wpList_append_sl rfl _ _ 136 rfl 103 i0 _ 7 56 Tryz.underlying136 hi hz0 hz1 hz2 rfl (by decide) rfl rfl (((HO3.out.allocB 103 (rcells ⟨ep,⟨c,n,j,t,kk,m⟩⟩)).drew).alloc (.cells (rcells ⟨ep,⟨c,n,j,t,kk,m⟩⟩).toArray 103)).two (RowAt.box (e:=103) (cs:=rcells ⟨ep,⟨c,n,j,t,kk,m⟩⟩) (by omega) (by simp)) rfl (rcells_ones _) (by simp<;>omega) (by simp<;>omega) ?_;intro v' w' hv' hq';have HV:=zH hv';have HQ:=zH hq';clear hv' hq')
       go_roundw
       case rel=>exact ⟨(init++[r'])++[⟨ep,⟨c,n,j,t,kk,m⟩⟩],p+9,by omega,by go_num,by have:=HK.out;simp [Hid] at this ⊢;omega,by simpa [recs,rvs_append,rvs] using HV.out.two.right,((HQ3.out.alloc _).drew).alloc _ |>.trans HQ.out,by rw [HALL.out];(first|rw [HA.out.2]|(show []++allFrom (l.length-p+1) 0 _=_;rw [HA.out.2]));rw [lastE_snoc];simp⟩
       case measure=>simp [intOf];omega
    ·have h1':(code != 0)=true:=by simpa using h1
     have HA:=zH (allFrom_end (n:=l.length-p+1) (last:=lastE 0 acc) HD.out (.inl h1))
     go_wp2_with fail
     refine (recof_any _ _ _ HS2.out).mono ?_
     rw [HD.out]
     rintro e w2 ⟨rfl,hb2⟩
     have HO3:=zH (HO.out.below hb2);have HQ3:=zH (HQU.out.trans (Quiet.below hb2));clear hb2
     go_wp2_with fail
     go_quiet (fail)
     go_wp2_with fail
     go_ret
     exact ⟨_,rfl,by first|exact HQ3.out.alloc _|exact (HQ3.out.alloc _).drewN _,by rw [HALL.out,HA.out,List.append_nil];first|exact HO3.out.alloc _|exact (HO3.out.alloc _).drewN _⟩
end Go.Proofs.YtfihmpkkpgmdhaaGreatDoor
