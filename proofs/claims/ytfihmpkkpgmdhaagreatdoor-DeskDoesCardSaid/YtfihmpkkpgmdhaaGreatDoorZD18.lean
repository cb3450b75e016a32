/-
  What the proof of DeskDoes leans on: definitions, laws, contracts of functions. No condition besides those that each theorem names.
-/
import Derived.Test.YtfihmpkkpgmdhaaGreatDoorZD13
import Derived.Test.YtfihmpkkpgmdhaaGreatDoorZD07
import Derived.Test.YtfihmpkkpgmdhaaGreatDoorZD14
import Derived.Test.YtfihmpkkpgmdhaaGreatDoorZD05
import Derived.Test.YtfihmpkkpgmdhaaGreatDoorZD01
import Derived.Test.YtfihmpkkpgmdhaaGreatDoorZD17
set_option maxRecDepth 100000
set_option maxHeartbeats 16000000
set_option linter.unusedVariables false
set_option linter.unusedSimpArgs false
set_option linter.unnecessarySimpa false
section
namespace Go.Proofs.YtfihmpkkpgmdhaaGreatDoor
open Go.RowKit Go.ChangeShapes Go.WideShapes Go.Deep
def flat (P:Program):Nat→TypeId→Bool
 | 0,_=>false
 | d+1,t=>match P.underlying t with
  | some (.int .i64)=>true
  | some (.struct fs)=>fs.all (fun f=>flat P d f.type)&&(List.range (P.cellsOf t)).all fun i=>fs.any fun f=>decide (f.offset≤i)&&decide (i<f.offset+P.cellsOf f.type)
  | _=>false
def I64' (n:Int):Prop := -9223372036854775808≤n∧n≤9223372036854775807
def ivs (z:List Int):List Value:=z.map (.int .i64)
section
variable {H:Type} {enc:TypeId×Value→H} {P:Program} {w:World} {base:Nat} {spare:Nat→Bool} {held:Bool}
end
end Go.Proofs.YtfihmpkkpgmdhaaGreatDoor
end
section
namespace Go.Proofs.YtfihmpkkpgmdhaaGreatDoor
open Go.RowKit Go.ChangeShapes Go.WideShapes Go.Deep
def Ev.ints (e:Ev):List Int:=[e.r.ep,e.r.o.kind,e.r.o.now,e.r.o.job,e.r.o.tr,e.r.o.wk,e.r.o.tm,e.a.code,e.a.job,e.a.tr,e.j.st,e.j.wk,e.j.tr,e.j.un]
def evcells (e:Ev):List Value:=ivs e.ints
def evvs (l:List Ev):List Value:=l.flatMap evcells
theorem evcells_length (e:Ev):(evcells e).length=14:=rfl
theorem evvs_append (l m:List Ev):evvs (l++m)=evvs l++evvs m:=by simp [evvs]
theorem evvs_get (l:List Ev):∀ (i j:Nat),j<14→(evvs l)[i*14+j]? = (l[i]?).bind fun r=>(evcells r)[j]? := by
 induction l with
 | nil=>intro i j _;simp [evvs]
 | cons r l ih=>
  intro i j hj
  have e:evvs (r::l)=evcells r++evvs l:=by simp [evvs]
  rw [e]
  cases i with
  | zero=>rw [List.getElem?_append_left (by rw [evcells_length];omega)];simp
  | succ i=>
   rw [List.getElem?_append_right (by rw [evcells_length];omega),evcells_length,show (i+1)*14+j-14=i*14+j by omega,ih i j hj]
   simp
theorem evvs_cell {w:World} {g off:Nat} {l:List Ev} (h:∀ j u,(evvs l)[j]? = some u→w.cell? ⟨g,off+j,none⟩=some u) {i:Nat} {r:Ev} (hi:l[i]? = some r) (j:Nat) (u:Value) (hj:j<14) (hu:(evcells r)[j]? = some u):w.cell? ⟨g,off+i*14+j,none⟩=some u:=by
 rw [Nat.add_assoc]
 refine h _ _ ?_
 rw [evvs_get l i j hj,hi]
 exact hu
theorem ivs_ones (z:List Int):Ones (ivs z):=fun u hu=>by
 simp only [ivs,List.mem_map] at hu
 obtain ⟨n,_,rfl⟩:=hu
 rfl
def sevs (v:Value) (l:List Ev):HP:=rw_ 125 14 v l.length (evvs l)
theorem Holds.nilE {w:World} {A:HP} (h:Holds w A):Holds w (sevs (.slice none 0 0) []*A):=h.nilRow _ _
section
variable {H:Type} {enc:TypeId×Value→H} {w:World} {base:Nat} {spare:Nat→Bool} {held:Bool}
end
end Go.Proofs.YtfihmpkkpgmdhaaGreatDoor
end
namespace Go.Proofs.YtfihmpkkpgmdhaaGreatDoor
open Go.RowKit
open Go.Lib renaming hid → zH
open Go.Value renaming int → zI
open Go.IntKind renaming i64 → zi
theorem Tryz.infoSEv:(Tryz.prog.info? 125).map (fun i=>(i.zero,i.size,i.bytes))=some (some (.agg #[zI zi 0,zI zi 0,zI zi 0,zI zi 0,zI zi 0,zI zi 0,zI zi 0,zI zi 0,zI zi 0,zI zi 0,zI zi 0,zI zi 0,zI zi 0,zI zi 0]),14,112):=by kernel_rfl
theorem evs_step {L:List Rec} {k:Nat} {r:Rec} (hr:L[k]? = some r):evs Tbl.zero (L.take (k+1))=evs Tbl.zero (L.take k)++[evOf (runL Tbl.zero (L.take k)) r]:=by
 have hl:=(List.getElem?_eq_some_iff.1 hr).1
 rw [List.take_succ_eq_append_getElem hl,evs_append,(List.getElem?_eq_some_iff.1 hr).2]
 rfl
theorem rvs_cell0 {w:World} {g off:Nat} {l:List Rec} (h:∀ j u,(rvs l)[j]? = some u→w.cell? ⟨g,off+j,none⟩=some u) {i:Nat} {r:Rec} (hi:l[i]? = some r):w.cell? ⟨g,off+i*7,none⟩=some (zI zi r.ep):=by
 have:=rvs_cell h hi 0 _ (by omega) rfl
 rwa [Nat.add_zero] at this
theorem evcells_ones (e:Ev):Ones (evcells e):=ivs_ones _
theorem ev_fit {w:World} {v:Value} {R:HP} (acc:List Ev) (e:Ev) (h:Holds w (rw_ 125 14 v (acc.length+1) (evvs acc++evcells e)*R)):Holds w (sevs v (acc++[e])*R):=
 h.eq (by unfold sevs;rw [evvs_append,List.length_append];simp [evvs])
theorem of_any (v:Value) (b:List UInt8) (w:World) (h:BytesAt w v b) (hl:b.length≤100000):Calls Tryz.prog 54 #[v] w (PostX w (old w) (fun v=>v) fun v=>sevs v (evs Tbl.zero (allB b))):=by
 obtain ⟨va,vc,rfl,-,-⟩:=h.shape
 have HV:=zH h;clear h
 have hL9:=allB_len b
 obtain ⟨L,hL⟩:∃ L,allB b=L:=⟨_,rfl⟩
 have HL:=zH hL
 rw [hL] at hL9 ⊢
 clear hL
 obtain ⟨i0,hi,hz0,hz1,hz2⟩:=info_parts Tryz.infoSEv
 have HI:=zH hi;have HZ0:=zH hz0;have HZ1:=zH hz1;have HZ2:=zH hz2
 clear hi hz0 hz1 hz2
 go_enter Tryz.func54,Tryz.ntmps54
 go_wp2_with fail
 refine (new_sl _ Holds.old).mono ?_
 rintro e w1 ⟨bt,rfl,q1,h1⟩
 have H1:=zH (show Holds w1 (tab bt Tbl.zero*old w) from h1);have Q1:=zH q1;clear h1 q1
 have HV1:=zH (HV.out.old H1.out)
 go_wp2_with fail
 refine (all_sl _ b _ HV1.out hl H1.out).mono ?_
 rw [HL.out]
 rintro e w2 ⟨v2,rfl,q2,h2⟩
 obtain ⟨a,cc,rfl,c1,c2⟩:=h2.row.shape
 have H2:=zH (show Holds w2 (recs (.slice a L.length cc) L*(tab bt Tbl.zero*old w)) from h2);have Q2:=zH (Q1.out.trans q2)
 clear h2 q2 H1 Q1 HV1 c1 c2
 have hL200:L.length≤20000:=by omega
 go_wp2_with fail
 go_loopw [4,14] (fun s i wr=>∃ k:Nat,k≤L.length∧i=zI zi k∧Holds wr (sevs s (evs Tbl.zero (L.take k))*(recs (.slice a L.length cc) L*(tab bt (runL Tbl.zero (L.take k))*old w)))∧Quiet w wr) (fun _ i _=>L.length-(intOf i).toNat)
 case atStart=>exact ⟨0,by omega,rfl,H2.out.nilE,Q2.out⟩
 case round=>
  obtain ⟨k,hk,rfl,hh,hq⟩:=hrel
  have HK:=zH hk
  by_cases hlt:k<L.length
  ·obtain ⟨r,hr⟩:∃ r,L[k]? = some r:=⟨_,List.getElem?_eq_getElem hlt⟩
   obtain ⟨g,off,cx,e,_,_,hc0⟩:=hh.two.row.get (by omega)
   simp only [Value.slice.injEq] at e
   obtain ⟨rfl,_,rfl⟩:=e
   have hrun:=zH (runL_step hr Tbl.zero)
   have hev:=zH (evs_step hr)
   have hin:=zH (runL_in Tbl.zero_in (L.take k))
   obtain ⟨acc,hacc⟩:∃ acc,evs Tbl.zero (L.take k)=acc:=⟨_,rfl⟩
   have hal:acc.length≤20000:=by rw [←hacc,evs_len,List.length_take];omega
   obtain ⟨ep2,⟨kd,nw,jb,tr,wk,tm⟩⟩:=r
   have y0:=rvs_cell0 hc0 hr
   have y1:=rvs_cell hc0 hr 1 _ (by omega) rfl
   have y2:=rvs_cell hc0 hr 2 _ (by omega) rfl
   have y3:=rvs_cell hc0 hr 3 _ (by omega) rfl
   have y4:=rvs_cell hc0 hr 4 _ (by omega) rfl
   have y5:=rvs_cell hc0 hr 5 _ (by omega) rfl
   have y6:=rvs_cell hc0 hr 6 _ (by omega) rfl
   dsimp only at y0 y1 y2 y3 y4 y5 y6 hrun
   obtain ⟨T,hT⟩:∃ T,runL Tbl.zero (L.take k)=T:=⟨_,rfl⟩
   rw [hT] at hh hin hrun hev
   rw [hacc] at hh hev
   unfold evOf at hev
   dsimp only at hev
   obtain ⟨⟨T',⟨a0,a1,a2⟩⟩,hX⟩:∃ X,T.did ⟨kd,nw,jb,tr,wk,tm⟩=X:=⟨_,rfl⟩
   rw [hX] at hrun hev
   dsimp only at hrun hev
   have HX:=zH hX
   obtain ⟨wo,rfl⟩:∃ wo:World,wo=wr:=⟨_,rfl⟩
   have hx:=hh.boxB (ty:=103) (cs:=[zI zi ep2,zI zi kd,zI zi nw,zI zi jb,zI zi tr,zI zi wk,zI zi tm]) rfl
   have HB:=zH hx;have QB:=zH (hq.alloc (.cells ([zI zi ep2,zI zi kd,zI zi nw,zI zi jb,zI zi tr,zI zi wk,zI zi tm]:List Value).toArray 103))
   clear hh hq hr hc0 hx hT hX hacc
   go_wp2_with fail
   clear y0 y1 y2 y3 y4 y5 y6
   refine (do_sl bt T kd nw jb tr wk tm _ (HB.out.four) hin.out.ok).mono ?_
   rw [HX.out]
   simp only [Ans.val]
   rintro e w3 ⟨rfl,q3,h3⟩
   obtain ⟨gr,hgr⟩:∃ gr,wo.heap.size=gr:=⟨_,rfl⟩
   rw [hgr] at h3 ⊢
   have H3:=zH (show Holds w3 (bl gr 103 [zI zi ep2,zI zi kd,zI zi nw,zI zi jb,zI zi tr,zI zi wk,zI zi tm]*(sevs u4 acc*(recs (.slice (some ⟨g,off,none⟩) L.length cc) L*(tab bt T'*old w)))) from h3.eq (by ac_rfl));have Q3:=zH (QB.out.trans q3)
   clear h3 q3 HB QB hgr
   have cr:=H3.out.bl.cells
   have lr:=H3.out.bl.lt
   have h4:=(H3.out.boxB (ty:=88) (cs:=[zI zi a0,zI zi a1,zI zi a2]) rfl).boxB (ty:=125) (cs:=[zI zi ep2,zI zi kd,zI zi nw,zI zi jb,zI zi tr,zI zi wk,zI zi tm,zI zi a0,zI zi a1,zI zi a2,zI zi 0,zI zi 0,zI zi 0,zI zi 0]) (g:=w3.heap.size+1) (by simp)
   have H4:=zH h4;have Q4:=zH ((Q3.out.alloc (.cells ([zI zi a0,zI zi a1,zI zi a2]:List Value).toArray 88)).alloc (.cells ([zI zi ep2,zI zi kd,zI zi nw,zI zi jb,zI zi tr,zI zi wk,zI zi tm,zI zi a0,zI zi a1,zI zi a2,zI zi 0,zI zi 0,zI zi 0,zI zi 0]:List Value).toArray 125))
   clear h4
   by_cases hc:a0=0
   ·subst hc
    rw [if_pos rfl] at hev
    by_cases h2:kd=2
    ·subst h2
     rw [if_pos rfl] at hev
     obtain ⟨⟨s1,s2,s3,s4⟩,hJ⟩:∃ J,T'.job a1=J:=⟨_,rfl⟩
     rw [hJ] at hev
     have HJ:=zH hJ;clear hJ
     go_wp2_with (refine wpList_built rfl 125 _ rfl [zI zi ep2,zI zi 2,zI zi nw,zI zi jb,zI zi tr,zI zi wk,zI zi tm,zI zi 0,zI zi a1,zI zi a2,zI zi 0,zI zi 0,zI zi 0,zI zi 0] (by kernel_rfl) ?_)
     refine (job_sl bt T' a1 _ (H4.out.eq (by ac_rfl:_=tab bt T'*(bl (w3.heap.size+1) 125 [zI zi ep2,zI zi 2,zI zi nw,zI zi jb,zI zi tr,zI zi wk,zI zi tm,zI zi 0,zI zi a1,zI zi a2,zI zi 0,zI zi 0,zI zi 0,zI zi 0]*(bl w3.heap.size 88 [zI zi 0,zI zi a1,zI zi a2]*(bl gr 103 [zI zi ep2,zI zi 2,zI zi nw,zI zi jb,zI zi tr,zI zi wk,zI zi tm]*(sevs u4 acc*(recs (.slice (some ⟨g,off,none⟩) L.length cc) L*old w)))))))).mono ?_
     rw [HJ.out]
     simp only [Job.val,jcells]
     rintro e w5 ⟨rfl,hb5⟩
     have H5:=zH (H4.out.below hb5);have Q5:=zH (Q4.out.trans (Quiet.below hb5))
     have ce:=H5.out.bl.cells
     have fe:=H5.out.bl.frees
     have le:=H5.out.bl.lt
     clear hb5 cr lr H4 Q4 H3 Q3
     have h6:=(((H5.out.setB 10 (zI zi s1)).setB 11 (zI zi s2)).setB 12 (zI zi s3)).setB 13 (zI zi s4)
     have hn3:=(OwnRow.new ((((w5.setCell ⟨w3.heap.size+1,10,none⟩ (zI zi s1)).setCell ⟨w3.heap.size+1,11,none⟩ (zI zi s2)).setCell ⟨w3.heap.size+1,12,none⟩ (zI zi s3)).setCell ⟨w3.heap.size+1,13,none⟩ (zI zi s4)) 125 14 1 [zI zi ep2,zI zi 2,zI zi nw,zI zi jb,zI zi tr,zI zi wk,zI zi tm,zI zi 0,zI zi a1,zI zi a2,zI zi s1,zI zi s2,zI zi s3,zI zi s4] rfl (evcells_ones ⟨⟨ep2,⟨2,nw,jb,tr,wk,tm⟩⟩,⟨0,a1,a2⟩,⟨s1,s2,s3,s4⟩⟩) (by omega)).row
     have ho3:=(h6.alloc (.cells #[zI zi ep2,zI zi 2,zI zi nw,zI zi jb,zI zi tr,zI zi wk,zI zi tm,zI zi 0,zI zi a1,zI zi a2,zI zi s1,zI zi s2,zI zi s3,zI zi s4] 125)).four
     have HN3:=zH hn3;have HO3:=zH ho3;have QO3:=zH (((((Q5.out.setCell ⟨w3.heap.size+1,10,none⟩ (zI zi s1)).setCell ⟨w3.heap.size+1,11,none⟩ (zI zi s2)).setCell ⟨w3.heap.size+1,12,none⟩ (zI zi s3)).setCell ⟨w3.heap.size+1,13,none⟩ (zI zi s4)).alloc (.cells #[zI zi ep2,zI zi 2,zI zi nw,zI zi jb,zI zi tr,zI zi wk,zI zi tm,zI zi 0,zI zi a1,zI zi a2,zI zi s1,zI zi s2,zI zi s3,zI zi s4] 125));clear hn3 ho3 h6
     simp only [World.size_setCell] at HN3
     go_wp2_with (first|(refine wpList_built rfl 125 _ rfl [zI zi ep2,zI zi 2,zI zi nw,zI zi jb,zI zi tr,zI zi wk,zI zi tm,zI zi 0,zI zi a1,zI zi a2,zI zi 0,zI zi 0,zI zi 0,zI zi 0] (by kernel_rfl) ?_)|(at_builtin;refine wpList_append_sl rfl _ _ 123 rfl 125 i0 _ 14 112 Tryz.underlying123 HI.out HZ0.out HZ1.out HZ2.out rfl (by decide) rfl rfl HO3.out HN3.out rfl (evcells_ones ⟨⟨ep2,⟨2,nw,jb,tr,wk,tm⟩⟩,⟨0,a1,a2⟩,⟨s1,s2,s3,s4⟩⟩) (by omega) (by omega) ?_;intro v' w' hv' hq';have HV':=zH hv';have HQ':=zH hq';clear hv' hq'))
     go_roundw
     case rel=>exact ⟨k+1,by omega,by go_num,by rw [hev.out,hrun.out];exact (ev_fit acc ⟨⟨ep2,⟨2,nw,jb,tr,wk,tm⟩⟩,⟨0,a1,a2⟩,⟨s1,s2,s3,s4⟩⟩ (HV'.out.eq (by ac_rfl:_=bl (w3.heap.size+1) 125 _*(bl w3.heap.size 88 _*(bl gr 103 _*(rw_ 125 14 v' (acc.length+1) (evvs acc++evcells ⟨⟨ep2,⟨2,nw,jb,tr,wk,tm⟩⟩,⟨0,a1,a2⟩,⟨s1,s2,s3,s4⟩⟩)*(recs (.slice (some ⟨g,off,none⟩) L.length cc) L*(tab bt T'*old w))))))).right.right.right),QO3.out.trans HQ'.out⟩
     case measure=>simp [intOf];omega
    ·have hk2:(kd==2)=false:=by simpa using h2
     rw [if_neg h2] at hev
     clear h2
     obtain ⟨⟨s1,s2,s3,s4⟩,hJ⟩:∃ J,T'.job jb=J:=⟨_,rfl⟩
     rw [hJ] at hev
     have HJ:=zH hJ;clear hJ
     go_wp2_with (refine wpList_built rfl 125 _ rfl [zI zi ep2,zI zi kd,zI zi nw,zI zi jb,zI zi tr,zI zi wk,zI zi tm,zI zi 0,zI zi a1,zI zi a2,zI zi 0,zI zi 0,zI zi 0,zI zi 0] (by kernel_rfl) ?_)
     refine (job_sl bt T' jb _ (H4.out.eq (by ac_rfl:_=tab bt T'*(bl (w3.heap.size+1) 125 [zI zi ep2,zI zi kd,zI zi nw,zI zi jb,zI zi tr,zI zi wk,zI zi tm,zI zi 0,zI zi a1,zI zi a2,zI zi 0,zI zi 0,zI zi 0,zI zi 0]*(bl w3.heap.size 88 [zI zi 0,zI zi a1,zI zi a2]*(bl gr 103 [zI zi ep2,zI zi kd,zI zi nw,zI zi jb,zI zi tr,zI zi wk,zI zi tm]*(sevs u4 acc*(recs (.slice (some ⟨g,off,none⟩) L.length cc) L*old w)))))))).mono ?_
     rw [HJ.out]
     simp only [Job.val,jcells]
     rintro e w5 ⟨rfl,hb5⟩
     have H5:=zH (H4.out.below hb5);have Q5:=zH (Q4.out.trans (Quiet.below hb5))
     have ce:=H5.out.bl.cells
     have fe:=H5.out.bl.frees
     have le:=H5.out.bl.lt
     clear hb5 cr lr H4 Q4 H3 Q3
     have h6:=(((H5.out.setB 10 (zI zi s1)).setB 11 (zI zi s2)).setB 12 (zI zi s3)).setB 13 (zI zi s4)
     have hn3:=(OwnRow.new ((((w5.setCell ⟨w3.heap.size+1,10,none⟩ (zI zi s1)).setCell ⟨w3.heap.size+1,11,none⟩ (zI zi s2)).setCell ⟨w3.heap.size+1,12,none⟩ (zI zi s3)).setCell ⟨w3.heap.size+1,13,none⟩ (zI zi s4)) 125 14 1 [zI zi ep2,zI zi kd,zI zi nw,zI zi jb,zI zi tr,zI zi wk,zI zi tm,zI zi 0,zI zi a1,zI zi a2,zI zi s1,zI zi s2,zI zi s3,zI zi s4] rfl (evcells_ones ⟨⟨ep2,⟨kd,nw,jb,tr,wk,tm⟩⟩,⟨0,a1,a2⟩,⟨s1,s2,s3,s4⟩⟩) (by omega)).row
     have ho3:=(h6.alloc (.cells #[zI zi ep2,zI zi kd,zI zi nw,zI zi jb,zI zi tr,zI zi wk,zI zi tm,zI zi 0,zI zi a1,zI zi a2,zI zi s1,zI zi s2,zI zi s3,zI zi s4] 125)).four
     have HN3:=zH hn3;have HO3:=zH ho3;have QO3:=zH (((((Q5.out.setCell ⟨w3.heap.size+1,10,none⟩ (zI zi s1)).setCell ⟨w3.heap.size+1,11,none⟩ (zI zi s2)).setCell ⟨w3.heap.size+1,12,none⟩ (zI zi s3)).setCell ⟨w3.heap.size+1,13,none⟩ (zI zi s4)).alloc (.cells #[zI zi ep2,zI zi kd,zI zi nw,zI zi jb,zI zi tr,zI zi wk,zI zi tm,zI zi 0,zI zi a1,zI zi a2,zI zi s1,zI zi s2,zI zi s3,zI zi s4] 125));clear hn3 ho3 h6
     simp only [World.size_setCell] at HN3
     go_wp2_with (first|(refine wpList_built rfl 125 _ rfl [zI zi ep2,zI zi kd,zI zi nw,zI zi jb,zI zi tr,zI zi wk,zI zi tm,zI zi 0,zI zi a1,zI zi a2,zI zi 0,zI zi 0,zI zi 0,zI zi 0] (by kernel_rfl) ?_)|(at_builtin;refine wpList_append_sl rfl _ _ 123 rfl 125 i0 _ 14 112 Tryz.underlying123 HI.out HZ0.out HZ1.out HZ2.out rfl (by decide) rfl rfl HO3.out HN3.out rfl (evcells_ones ⟨⟨ep2,⟨kd,nw,jb,tr,wk,tm⟩⟩,⟨0,a1,a2⟩,⟨s1,s2,s3,s4⟩⟩) (by omega) (by omega) ?_;intro v' w' hv' hq';have HV':=zH hv';have HQ':=zH hq';clear hv' hq'))
     go_roundw
     case rel=>exact ⟨k+1,by omega,by go_num,by rw [hev.out,hrun.out];exact (ev_fit acc ⟨⟨ep2,⟨kd,nw,jb,tr,wk,tm⟩⟩,⟨0,a1,a2⟩,⟨s1,s2,s3,s4⟩⟩ (HV'.out.eq (by ac_rfl:_=bl (w3.heap.size+1) 125 _*(bl w3.heap.size 88 _*(bl gr 103 _*(rw_ 125 14 v' (acc.length+1) (evvs acc++evcells ⟨⟨ep2,⟨kd,nw,jb,tr,wk,tm⟩⟩,⟨0,a1,a2⟩,⟨s1,s2,s3,s4⟩⟩)*(recs (.slice (some ⟨g,off,none⟩) L.length cc) L*(tab bt T'*old w))))))).right.right.right),QO3.out.trans HQ'.out⟩
     case measure=>simp [intOf];omega
   ·have hc2:(a0==0)=false:=by simpa using hc
    rw [if_neg hc] at hev
    clear hc
    by_cases h2:kd=2
    ·subst h2
     have hn3:=(OwnRow.new ((w3.alloc (.cells #[zI zi a0,zI zi a1,zI zi a2] 88)).alloc (.cells #[zI zi ep2,zI zi 2,zI zi nw,zI zi jb,zI zi tr,zI zi wk,zI zi tm,zI zi a0,zI zi a1,zI zi a2,zI zi 0,zI zi 0,zI zi 0,zI zi 0] 125)) 125 14 1 [zI zi ep2,zI zi 2,zI zi nw,zI zi jb,zI zi tr,zI zi wk,zI zi tm,zI zi a0,zI zi a1,zI zi a2,zI zi 0,zI zi 0,zI zi 0,zI zi 0] rfl (evcells_ones ⟨⟨ep2,⟨2,nw,jb,tr,wk,tm⟩⟩,⟨a0,a1,a2⟩,Job.zero⟩) (by omega)).row
     have ho3:=(H4.out.alloc (.cells #[zI zi ep2,zI zi 2,zI zi nw,zI zi jb,zI zi tr,zI zi wk,zI zi tm,zI zi a0,zI zi a1,zI zi a2,zI zi 0,zI zi 0,zI zi 0,zI zi 0] 125)).four
     have HN3:=zH hn3;have HO3:=zH ho3;have QO3:=zH (Q4.out.alloc (.cells #[zI zi ep2,zI zi 2,zI zi nw,zI zi jb,zI zi tr,zI zi wk,zI zi tm,zI zi a0,zI zi a1,zI zi a2,zI zi 0,zI zi 0,zI zi 0,zI zi 0] 125));clear hn3 ho3
     simp only [World.size_alloc] at HN3
     go_wp2_with (first|(refine wpList_built rfl 125 _ rfl [zI zi ep2,zI zi 2,zI zi nw,zI zi jb,zI zi tr,zI zi wk,zI zi tm,zI zi a0,zI zi a1,zI zi a2,zI zi 0,zI zi 0,zI zi 0,zI zi 0] (by kernel_rfl) ?_)|(at_builtin;refine wpList_append_sl rfl _ _ 123 rfl 125 i0 _ 14 112 Tryz.underlying123 HI.out HZ0.out HZ1.out HZ2.out rfl (by decide) rfl rfl HO3.out HN3.out rfl (evcells_ones ⟨⟨ep2,⟨2,nw,jb,tr,wk,tm⟩⟩,⟨a0,a1,a2⟩,Job.zero⟩) (by omega) (by omega) ?_;intro v' w' hv' hq';have HV':=zH hv';have HQ':=zH hq';clear hv' hq'))
     go_roundw
     case rel=>exact ⟨k+1,by omega,by go_num,by rw [hev.out,hrun.out];exact (ev_fit acc ⟨⟨ep2,⟨2,nw,jb,tr,wk,tm⟩⟩,⟨a0,a1,a2⟩,Job.zero⟩ (HV'.out.eq (by ac_rfl:_=bl (w3.heap.size+1) 125 _*(bl w3.heap.size 88 _*(bl gr 103 _*(rw_ 125 14 v' (acc.length+1) (evvs acc++evcells ⟨⟨ep2,⟨2,nw,jb,tr,wk,tm⟩⟩,⟨a0,a1,a2⟩,Job.zero⟩)*(recs (.slice (some ⟨g,off,none⟩) L.length cc) L*(tab bt T'*old w))))))).right.right.right),QO3.out.trans HQ'.out⟩
     case measure=>simp [intOf];omega
    ·have hk2:(kd==2)=false:=by simpa using h2
     clear h2
     have hn3:=(OwnRow.new ((w3.alloc (.cells #[zI zi a0,zI zi a1,zI zi a2] 88)).alloc (.cells #[zI zi ep2,zI zi kd,zI zi nw,zI zi jb,zI zi tr,zI zi wk,zI zi tm,zI zi a0,zI zi a1,zI zi a2,zI zi 0,zI zi 0,zI zi 0,zI zi 0] 125)) 125 14 1 [zI zi ep2,zI zi kd,zI zi nw,zI zi jb,zI zi tr,zI zi wk,zI zi tm,zI zi a0,zI zi a1,zI zi a2,zI zi 0,zI zi 0,zI zi 0,zI zi 0] rfl (evcells_ones ⟨⟨ep2,⟨kd,nw,jb,tr,wk,tm⟩⟩,⟨a0,a1,a2⟩,Job.zero⟩) (by omega)).row
     have ho3:=(H4.out.alloc (.cells #[zI zi ep2,zI zi kd,zI zi nw,zI zi jb,zI zi tr,zI zi wk,zI zi tm,zI zi a0,zI zi a1,zI zi a2,zI zi 0,zI zi 0,zI zi 0,zI zi 0] 125)).four
     have HN3:=zH hn3;have HO3:=zH ho3;have QO3:=zH (Q4.out.alloc (.cells #[zI zi ep2,zI zi kd,zI zi nw,zI zi jb,zI zi tr,zI zi wk,zI zi tm,zI zi a0,zI zi a1,zI zi a2,zI zi 0,zI zi 0,zI zi 0,zI zi 0] 125));clear hn3 ho3
     simp only [World.size_alloc] at HN3
     go_wp2_with (first|(refine wpList_built rfl 125 _ rfl [zI zi ep2,zI zi kd,zI zi nw,zI zi jb,zI zi tr,zI zi wk,zI zi tm,zI zi a0,zI zi a1,zI zi a2,zI zi 0,zI zi 0,zI zi 0,zI zi 0] (by kernel_rfl) ?_)|(at_builtin;refine wpList_append_sl rfl _ _ 123 rfl 125 i0 _ 14 112 Tryz.underlying123 HI.out HZ0.out HZ1.out HZ2.out rfl (by decide) rfl rfl HO3.out HN3.out rfl (evcells_ones ⟨⟨ep2,⟨kd,nw,jb,tr,wk,tm⟩⟩,⟨a0,a1,a2⟩,Job.zero⟩) (by omega) (by omega) ?_;intro v' w' hv' hq';have HV':=zH hv';have HQ':=zH hq';clear hv' hq'))
     go_roundw
     case rel=>exact ⟨k+1,by omega,by go_num,by rw [hev.out,hrun.out];exact (ev_fit acc ⟨⟨ep2,⟨kd,nw,jb,tr,wk,tm⟩⟩,⟨a0,a1,a2⟩,Job.zero⟩ (HV'.out.eq (by ac_rfl:_=bl (w3.heap.size+1) 125 _*(bl w3.heap.size 88 _*(bl gr 103 _*(rw_ 125 14 v' (acc.length+1) (evvs acc++evcells ⟨⟨ep2,⟨kd,nw,jb,tr,wk,tm⟩⟩,⟨a0,a1,a2⟩,Job.zero⟩)*(recs (.slice (some ⟨g,off,none⟩) L.length cc) L*(tab bt T'*old w))))))).right.right.right),QO3.out.trans HQ'.out⟩
     case measure=>simp [intOf];omega
  ·obtain rfl:k=L.length:=by omega
   go_wp2
   go_ret
   exact ⟨_,rfl,hq,by rw [List.take_length] at hh;exact (hh.eq (by ac_rfl:_=recs (.slice a L.length cc) L*(tab bt (runL Tbl.zero L)*(sevs u4 (evs Tbl.zero L)*old w)))).right.right⟩
theorem of_sl (v:Value) (b:List UInt8) (w:World) (h:BytesAt w v b) (hl:b.length≤100000) {R:HP} (hr:Holds w R):Calls Tryz.prog 54 #[v] w (PostX w R (fun v=>v) fun v=>sevs v (evs Tbl.zero (allB b))):=
 (of_any v b w h hl).mono fun e w' ⟨x,he,hq,hh⟩=>⟨x,he,hq,hh.frame hr⟩
end Go.Proofs.YtfihmpkkpgmdhaaGreatDoor
section
namespace Go.Proofs.YtfihmpkkpgmdhaaGreatDoor
open Go.RowKit Go.ChangeShapes Go.WideShapes Go.Deep
def Stp.ints (r:Stp):List Int:=[r.kind,r.n,r.keep,r.o.kind,r.o.now,r.o.job,r.o.tr,r.o.wk,r.o.tm]
def stcells (r:Stp):List Value:=ivs r.ints
def svs (l:List Stp):List Value:=l.flatMap stcells
theorem recs_take {w:World} {a:Option Addr} {n c:Nat} {l:List Rec} (h:RowAt w (.slice a n c) l.length (rvs l)) {q:Nat} (hq:q≤l.length):RowAt w (.slice a q c) (l.take q).length (rvs (l.take q)):=by
 obtain ⟨a',c',e,h1,h2,h3,h4⟩:=h
 simp only [Value.slice.injEq] at e
 obtain ⟨rfl,_,rfl⟩:=e
 have hl:(l.take q).length=q:=by simp;omega
 refine ⟨a,c,by rw [hl],by omega,h2,h3,fun hne=>?_⟩
 obtain ⟨g,off,rfl,h5⟩:=h4 (by omega)
 refine ⟨g,off,rfl,fun j u hu=>h5 j u ?_⟩
 have e:rvs l=rvs (l.take q)++rvs (l.drop q):=by rw [←rvs_append,List.take_append_drop]
 rw [e,List.getElem?_append_left (List.getElem?_eq_some_iff.1 hu).1]
 exact hu
end Go.Proofs.YtfihmpkkpgmdhaaGreatDoor
end
namespace Go.Proofs.YtfihmpkkpgmdhaaGreatDoor
open Go.RowKit
open Go.Lib renaming hid → zH
open Go.Value renaming int → zI
open Go.IntKind renaming i64 → zi
theorem bdid_done (t:Tbl) (nw tr wk tm:Int) (q:Nat) (w:World) (hok:t.Ok) (ho:chk ⟨4,nw,(q:Int),tr,wk,tm⟩=0) (hq6:q<6) (h1:((t.pass nw).jobs q).st=2) (h2:((t.pass nw).jobs q).wk=wk) (h3:((t.pass nw).jobs q).tr=tr):Calls Tryz.prog 93 #[.agg (tcells t).toArray,.agg #[zI zi 4,zI zi nw,zI zi (q:Int),zI zi tr,zI zi wk,zI zi tm]] w (DidPost w (t.did ⟨4,nw,(q:Int),tr,wk,tm⟩)):=by
 have HO:=zH ho;clear ho
 have hok':=pass_ok hok (chk_more HO.out).1.2
 have HOK:=zH hok';clear hok hok'
 have htm0:=(chk_zero HO.out).2.2.2.1
 have htm1:=(chk_zero HO.out).2.2.2.2
 dsimp only at htm0 htm1
 obtain ⟨X,hX⟩:∃ X,t.did ⟨4,nw,(q:Int),tr,wk,tm⟩=X:=⟨_,rfl⟩
 rw [hX]
 have HX:=zH hX;clear hX
 have h0:=((((Holds.old (w:=w)).boxB (ty:=96) (cs:=tcells t) rfl).boxB (ty:=84) (cs:=[zI zi 4,zI zi nw,zI zi (q:Int),zI zi tr,zI zi wk,zI zi tm]) (g:=w.heap.size+1) (by simp)).boxB (ty:=96) (cs:=tcells Tbl.zero) (g:=w.heap.size+1+1) (by simp)).boxB (ty:=88) (cs:=[zI zi 0,zI zi 0,zI zi 0]) (g:=w.heap.size+1+1+1) (by simp)
 have H0:=zH h0;clear h0
 have q0:=((((Quiet.refl w).alloc (.cells (tcells t).toArray 96)).alloc (.cells ([zI zi 4,zI zi nw,zI zi (q:Int),zI zi tr,zI zi wk,zI zi tm]:List Value).toArray 84)).alloc (.cells (tcells Tbl.zero).toArray 96)).alloc (.cells ([zI zi 0,zI zi 0,zI zi 0]:List Value).toArray 88)
 have Q0:=zH q0;clear q0
 go_enter Tryz.func93,Tryz.ntmps93
 go_wp2_with fail
 refine (ofault_any 4 nw (q:Int) tr wk tm _).mono ?_
 rw [HO.out]
 rintro e w1 ⟨rfl,hb1⟩
 have H1:=zH (H0.out.below hb1);have Q1:=zH (Q0.out.trans (Quiet.below hb1));clear hb1 H0 Q0
 have x1:=H1.out.right.right.bl.cells
 have HS0:=zH H1.out.right.right.right.bl
 go_wp2_with (refine wpList_load_whole rfl 96 _ rfl w.heap.size rfl (tcells t) HS0.out Tryz.underlying96 rfl (by kernel_rfl) ?_)
 refine (later_any t nw _).mono ?_
 rintro e w2 ⟨rfl,hb2⟩
 obtain ⟨P,hP⟩:∃ P,t.pass nw=P:=⟨_,rfl⟩
 rw [hP]
 have HP:=zH hP;clear hP
 have H2:=zH (H1.out.below hb2);have Q2:=zH (Q1.out.trans (Quiet.below hb2));clear hb2 x1 HS0 H1 Q1
 rw [HP.out] at HOK
 have hn0:=HOK.out.now.1
 have hn1:=HOK.out.now.2
 obtain ⟨⟨s0,k0,r0,u0⟩,hJ⟩:∃ J,P.jobs q=J:=⟨_,rfl⟩
 have HJ:=zH hJ
 rw [HP.out,hJ] at h1 h2 h3
 dsimp only at h1 h2 h3
 have hs0:(s0==0)=false:=by rw [h1];rfl
 have hs2:(s0 != 2)=false:=by rw [h1];rfl
 have hs3:(k0 != wk)=false:=by rw [h2];simp
 have hs4:(r0 != tr)=false:=by rw [h3];simp
 have hx:X=(P.set q ⟨3,k0,r0,0⟩,⟨0,0,0⟩):=by
  rw [←HX.out]
  refine did_of HO.out ?_ rfl
  dsimp only
  rw [HP.out]
  rw [act_held _ _ _ _ _ _ _ (by simpa [hJ] using h1) (by simpa [hJ] using h2) (by simpa [hJ] using h3) (by simp)];simp [hJ]
 subst hx
 have HS1:=zH h1;have HS2:=zH h2;have HS3:=zH h3;clear h1 h2 h3
 clear hJ
 go_upto_region 14 with (refine wpList_store_whole rfl 96 _ _ rfl w2.heap.size (tcells P) rfl rfl (BlockAt.new w2 96 (tcells Tbl.zero)) (by simp [tcells_len]) (by kernel_rfl) (tcells_ones P) ?_;intro w3 h1' h2' h3';have H3:=zH ((H2.out.allocB 96 (tcells Tbl.zero)).grown h2' h1');have Q3:=zH ((Q2.out.alloc (.cells (tcells Tbl.zero).toArray 96)).trans (Quiet.grown h2'));have x1:=H3.out.right.right.right.bl.cells;have HS4:=zH H3.out.bl;clear h1' h2' h3')
 obtain ⟨c0,c1,c2,c3⟩:=HS4.out.job hq6
 rw [HJ.out] at c0 c1 c2 c3
 dsimp only at c0 c1 c2 c3
 go_upto_region 15 with fail
 have h4:=(H3.out.boxB (ty:=92) (cs:=[zI zi s0,zI zi k0,zI zi r0,zI zi u0]) rfl)
 have q4:=(Q3.out.alloc (.cells ([zI zi s0,zI zi k0,zI zi r0,zI zi u0]:List Value).toArray 92))
 obtain ⟨w4,hw4⟩:∃ w4,w3.alloc (.cells ([zI zi s0,zI zi k0,zI zi r0,zI zi u0]:List Value).toArray 92)=w4:=⟨_,rfl⟩
 obtain ⟨bj,hbj⟩:∃ bj,w3.heap.size=bj:=⟨_,rfl⟩
 obtain ⟨b4,hb4⟩:∃ b4,w2.heap.size=b4:=⟨_,rfl⟩
 rw [hw4,hbj] at h4
 rw [hb4] at h4
 rw [hw4] at q4
 have hw4':w3.alloc (.cells #[zI zi s0,zI zi k0,zI zi r0,zI zi u0] 92)=w4:=hw4
 rw [hw4',hbj,hb4]
 clear c0 c1 c2 c3 HS4 x1 hw4 hw4' hbj hb4 H3 Q3 H2 Q2
 have x1:=h4.right.right.right.right.bl.cells
 have xj:=h4.bl.cells
 have HS4:=zH h4.two.bl
 have f4:=HS4.out.frees
 have l4:=HS4.out.lt
 have lj:=h4.bl.lt
 obtain ⟨c0,c1,c2,c3⟩:=HS4.out.job hq6
 rw [HJ.out] at c0 c1 c2 c3
 dsimp only at c0 c1 c2 c3
 have H4:=zH h4;have Q4:=zH q4;clear h4 q4
 go_upto_region 31 with fail
 have hg:Holds ((((w4.setCell ⟨b4,q*4,none⟩ (zI zi 3)).setCell ⟨b4,q*4+1,none⟩ (zI zi k0)).setCell ⟨b4,q*4+2,none⟩ (zI zi r0)).setCell ⟨b4,q*4+3,none⟩ (zI zi 0)) _:=Holds.setJob H4.out.two hq6 ⟨3,k0,r0,0⟩
 have qg:=((((Q4.out.setCell ⟨b4,q*4,none⟩ (zI zi 3)).setCell ⟨b4,q*4+1,none⟩ (zI zi k0)).setCell ⟨b4,q*4+2,none⟩ (zI zi r0)).setCell ⟨b4,q*4+3,none⟩ (zI zi 0))
 obtain ⟨PT,hPT⟩:∃ PT,P.set q ⟨3,k0,r0,0⟩=PT:=⟨_,rfl⟩
 obtain ⟨we,hwe⟩:∃ we,((((w4.setCell ⟨b4,q*4,none⟩ (zI zi 3)).setCell ⟨b4,q*4+1,none⟩ (zI zi k0)).setCell ⟨b4,q*4+2,none⟩ (zI zi r0)).setCell ⟨b4,q*4+3,none⟩ (zI zi 0))=we:=⟨_,rfl⟩
 rw [hwe,hPT] at hg
 rw [hwe] at qg ⊢
 have HG:=zH hg;have QG:=zH qg;have HPT:=zH hPT
 clear hg qg hPT hwe x1 xj f4 l4 lj HS4 c0 c1 c2 c3
 go_wp2_with (first|(refine wpList_load_whole rfl 96 _ rfl b4 rfl (tcells PT) HG.out.tb Tryz.underlying96 rfl (by kernel_rfl) ?_)|(refine wpList_store_whole rfl 96 _ _ rfl (w.heap.size+1+1) (tcells PT) rfl rfl HG.out.four.bl (by simp [tcells_len]) (by kernel_rfl) (tcells_ones PT) ?_;intro w' h1' h2' h3';have HE:=zH (HG.out.four.grown h2' h1').four;have QE:=zH (Quiet.grown h2');have fe:=HE.out.bl.frees;have ce:=HE.out.bl.cells;have le:=HE.out.bl.lt;clear h1' h2' h3'))
 have hf:=((HE.out.setB 0 (zI zi 0)).setB 1 (zI zi 0)).setB 2 (zI zi 0)
 have hl1:=run_load_part (P:=Tryz.prog) (off:=0) (ty:=88) (vs:=[zI zi 0,zI zi 0,zI zi 0]) hf.bl rfl Tryz.underlying88 rfl (by kernel_rfl)
 have hl2:=run_load_part (P:=Tryz.prog) (off:=0) (ty:=96) (vs:=tcells PT) hf.two.bl (by simp) Tryz.underlying96 rfl (by kernel_rfl)
 exact bodyPost_ret (results_cell2 rfl rfl rfl hl2 hl1) rfl ⟨by rw [←HPT.out],hf.right.right.right.right.right.right.toBelow' ((((QG.out.trans QE.out).setCell _ _).setCell _ _).setCell _ _)⟩
end Go.Proofs.YtfihmpkkpgmdhaaGreatDoor
