/-
  What the proof of DeskDoes leans on: definitions, laws, contracts of functions. No condition besides those that each theorem names.
-/
import Derived.Test.YtfihmpkkpgmdhaaGreatDoorZD23
import Derived.Test.YtfihmpkkpgmdhaaGreatDoorZD21
import Derived.Deep.Cut
set_option maxRecDepth 100000
set_option maxHeartbeats 16000000
set_option linter.unusedVariables false
set_option linter.unusedSimpArgs false
set_option linter.unnecessarySimpa false
section
namespace Go.Proofs.YtfihmpkkpgmdhaaGreatDoor
open List renaming setIfInBounds_toArray → zA, set_cons_zero → zB, set_cons_succ → zC
open Go.Act renaming put → zP
open Go.Lib renaming hid → zH
open Go.Value renaming int → zI
open Go.IntKind renaming i64 → zi
open Go.RowKit
section
variable {P:Program} {ops:Array Oper} {S:World→Prop} {path:List Nat} {Q:Exit→Act→World→Prop}
theorem LexL.storeB {o:Oper} {i:Nat} {rest:List Oper} {a:Act} {w:World} {q:Nat} {t:TypeId} {cs:List Value} {B:HP} (ty:TypeId) (x y:Operand) (ho:o.op=.store ty x y) (vs:List Value) (hx:a.eval x=.pointer (some ⟨q,0,Option.none⟩)) (hy:a.eval y=.agg vs.toArray) (hlen:vs.length=cs.length)
  (hi:(P.info? ty).map (·.size)=some vs.length) (h1:Ones vs) (hw:Region.wanted o (yielded ops a.tmps)=true) (hp:i∈path) (hA:Holds w (bl q t cs*B))
  (h:∀ w',Holds w' (bl q t vs*B)→Quiet w w'→S w'∧LexL P ops S path Q (i+1) rest (a.put o.dst undef) w'):LexL P ops S path Q i (o::rest) a w:=by
 obtain ⟨w',e,hb,hg⟩:=exec_store_part (P:=P) ty x y ho q 0 vs hx hy hA.bl (by omega) hi h1
 have hb':BlockAt w' q t vs:=by simpa [hlen] using hb
 obtain ⟨hS,hl⟩:=h w' (hA.grown hg hb') (Quiet.grown hg)
 exact LexL.store hw hp e hS hl
end
theorem recs_cells7 {W:World} {g off n c i:Nat} {L:List Rec} {R:HP} (ep2 kd nw jb tr wk tm:Int) (h:Holds W (recs (.slice (some ⟨g,off,none⟩) n c) L*R)) (hi:L[i]? = some ⟨ep2,⟨kd,nw,jb,tr,wk,tm⟩⟩) :
  W.cell? ⟨g,off+i*7,none⟩=some (zI zi ep2)∧W.cell? ⟨g,off+i*7+1,none⟩=some (zI zi kd)∧W.cell? ⟨g,off+i*7+2,none⟩=some (zI zi nw)∧W.cell? ⟨g,off+i*7+3,none⟩=some (zI zi jb)∧W.cell? ⟨g,off+i*7+4,none⟩=some (zI zi tr)∧W.cell? ⟨g,off+i*7+5,none⟩=some (zI zi wk)∧W.cell? ⟨g,off+i*7+6,none⟩=some (zI zi tm):=by
 have hn:L.length≠0:=by intro e;have:=(List.getElem?_eq_some_iff.1 hi).1;omega
 obtain ⟨g',off',c',e,_,_,hc⟩:=h.row.get hn
 simp only [Value.slice.injEq,Option.some.injEq,Addr.mk.injEq,and_true] at e
 obtain ⟨⟨rfl,rfl⟩,_,rfl⟩:=e
 exact ⟨rvs_cell0 hc hi,rvs_cell hc hi 1 _ (by omega) rfl,rvs_cell hc hi 2 _ (by omega) rfl,rvs_cell hc hi 3 _ (by omega) rfl,rvs_cell hc hi 4 _ (by omega) rfl,rvs_cell hc hi 5 _ (by omega) rfl,rvs_cell hc hi 6 _ (by omega) rfl⟩
theorem eventsOf_any (v:Value) (b:List UInt8) (w:World) (h:BytesAt w v b) (hl:b.length≤100000):Calls Tryz.prog 37 #[v] w (PostX w (old w) (fun v=>v) fun v=>revs v (evs Tbl.zero (allB b))):=by
 obtain ⟨va,vc,rfl,-,-⟩:=h.shape
 have HV:=zH h;clear h
 have hL9:=allB_len b
 obtain ⟨L,hL⟩:∃ L,allB b=L:=⟨_,rfl⟩
 have HL:=zH hL
 rw [hL] at hL9 ⊢
 clear hL
 obtain ⟨i0,hi,hz0,hz1,hz2⟩:=info_parts Tryz.infoREv
 have HI:=zH hi;have HZ0:=zH hz0;have HZ1:=zH hz1;have HZ2:=zH hz2
 clear hi hz0 hz1 hz2
 go_enter Tryz.func37,Tryz.ntmps37
 go_wp2_with fail
 refine (recsof_sl _ b _ HV.out hl Holds.old).mono ?_
 rw [HL.out]
 rintro e w2 ⟨v2,rfl,q2,h2⟩
 obtain ⟨a,cc,rfl,c1,c2⟩:=h2.row.shape
 have H2:=zH (Holds.nilRE ((show Holds w2 (recs (.slice a L.length cc) L*old w) from h2).boxB (ty:=96) (cs:=tcells Tbl.zero) rfl))
 have Q2:=zH (q2.alloc (.cells (tcells Tbl.zero).toArray 96))
 clear h2 q2 c1 c2
 have hL200:L.length≤20000:=by omega
 obtain ⟨bb,hbb⟩:∃ bb,w2.heap.size=bb:=⟨_,rfl⟩
 rw [hbb] at H2
 go_wp2_with fail
 go_loopw [4,6] (fun s i wr=>∃ k:Nat,k≤L.length∧i=zI zi k∧Holds wr (revs s (evs Tbl.zero (L.take k))*(recs (.slice a L.length cc) L*(tb bb 96 (runL Tbl.zero (L.take k))*old w)))∧Quiet w wr) (fun _ i _=>L.length-(intOf i).toNat)
 case atStart=>exact ⟨0,by omega,rfl,H2.out.eq (by ac_rfl),Q2.out⟩
 case round=>
  obtain ⟨k,hk,rfl,hh,hq⟩:=hrel
  have HK:=zH hk
  try rw [hbb]
  by_cases hlt:k<L.length
  ·obtain ⟨r,hr⟩:∃ r,L[k]? = some r:=⟨_,List.getElem?_eq_getElem hlt⟩
   obtain ⟨g,off,cx,e,_,_,hc0⟩:=hh.two.row.get (by omega)
   simp only [Value.slice.injEq] at e
   obtain ⟨rfl,_,rfl⟩:=e
   have hrun:=zH (runL_step hr Tbl.zero)
   have hev:=zH (evs_step hr)
   have hin:=zH (runL_in Tbl.zero_in (L.take k))
   obtain ⟨acc,hacc⟩:∃ acc,evs Tbl.zero (L.take k)=acc:=⟨_,rfl⟩
   have hal:acc.length≤20000:=by rw [←hacc,evs_len,List.length_take];omega
   obtain ⟨ep2,⟨kd,nw,jb,tr,wk,tm⟩⟩:=r
   dsimp only at hrun
   obtain ⟨T,hT⟩:∃ T,runL Tbl.zero (L.take k)=T:=⟨_,rfl⟩
   rw [hT] at hh hin hrun hev
   rw [hacc] at hh hev
   unfold evOf at hev
   dsimp only at hev
   obtain ⟨⟨T',⟨a0,a1,a2⟩⟩,hX⟩:∃ X,T.did ⟨kd,nw,jb,tr,wk,tm⟩=X:=⟨_,rfl⟩
   rw [hX] at hrun hev
   dsimp only at hrun hev
   have HX:=zH hX
   obtain ⟨wo,rfl⟩:∃ wo:World,wo=wr:=⟨_,rfl⟩
   have mkR:∀ (W:World) (A:HP),Holds W (recs (.slice (some ⟨g,off,none⟩) L.length cc) L*A)→W.cell? ⟨g,off+k*7,none⟩=some (zI zi ep2)∧W.cell? ⟨g,off+k*7+1,none⟩=some (zI zi kd)∧W.cell? ⟨g,off+k*7+2,none⟩=some (zI zi nw)∧W.cell? ⟨g,off+k*7+3,none⟩=some (zI zi jb)∧W.cell? ⟨g,off+k*7+4,none⟩=some (zI zi tr)∧W.cell? ⟨g,off+k*7+5,none⟩=some (zI zi wk)∧W.cell? ⟨g,off+k*7+6,none⟩=some (zI zi tm):=fun W A hW=>recs_cells7 ep2 kd nw jb tr wk tm hW hr
   obtain ⟨y0,y1,y2,y3,y4,y5,y6⟩:=mkR wo _ hh.two
   have MKR:=zH mkR
   have HH:=zH hh;have HQ:=zH hq
   have HKL:=zH hlt
   have hlt':(k:Int)<(L.length:Int):=by omega
   clear hh hq hr hc0 hT hX hacc mkR
   go_wp2_with fail
   clear y0 y1 y2 y3 y4 y5 y6
   refine (bdo_sl bb T kd nw jb tr wk tm _ HH.out.three hin.out.ok).mono ?_
   rw [HX.out]
   dsimp only
   rintro e w3 ⟨rfl,q3,h3⟩
   have H3:=zH (show Holds w3 (tb bb 96 T'*(revs u4 acc*(recs (.slice (some ⟨g,off,none⟩) L.length cc) L*old w))) from h3);have Q3:=zH (HQ.out.trans q3)
   clear h3 q3
   go_wp2_with fail
   obtain ⟨w4,hw4,H4,Q4⟩:∃ w4,w3.alloc (.cells #[zI zi a0,zI zi a1,zI zi a2] 88)=w4∧Hid (Holds w4 (bl w3.heap.size 88 [zI zi a0,zI zi a1,zI zi a2]*(tb bb 96 T'*(revs u4 acc*(recs (.slice (some ⟨g,off,none⟩) L.length cc) L*old w)))))∧Hid (Quiet w w4):=⟨_,rfl,zH (H3.out.boxB (ty:=88) (cs:=[zI zi a0,zI zi a1,zI zi a2]) rfl),zH (Q3.out.alloc _)⟩
   rw [hw4]
   obtain ⟨ga,hga⟩:∃ ga,w3.heap.size=ga:=⟨_,rfl⟩
   rw [hga] at H4 ⊢
   clear hw4 hga H3 Q3
   have mkS:∀ (W:World) (A:HP),Holds W (bl ga 88 [zI zi a0,zI zi a1,zI zi a2]*(recs (.slice (some ⟨g,off,none⟩) L.length cc) L*A))→(W.cell? ⟨g,off+k*7,none⟩=some (zI zi ep2)∧W.cell? ⟨g,off+k*7+1,none⟩=some (zI zi kd)∧W.cell? ⟨g,off+k*7+2,none⟩=some (zI zi nw)∧W.cell? ⟨g,off+k*7+3,none⟩=some (zI zi jb)∧W.cell? ⟨g,off+k*7+4,none⟩=some (zI zi tr)∧W.cell? ⟨g,off+k*7+5,none⟩=some (zI zi wk)∧W.cell? ⟨g,off+k*7+6,none⟩=some (zI zi tm))∧W.cell? ⟨ga,0,none⟩=some (zI zi a0)∧W.cell? ⟨ga,1,none⟩=some (zI zi a1)∧W.cell? ⟨ga,2,none⟩=some (zI zi a2):=fun W A hW=>
    ⟨MKR.out W _ hW.two,hW.bl.cell 0 _ rfl,hW.bl.cell 1 _ rfl,hW.bl.cell 2 _ rfl⟩
   have MKS:=zH mkS
   clear mkS
   refine wp_region_lex (fun W=>(W.cell? ⟨g,off+k*7,none⟩=some (zI zi ep2)∧W.cell? ⟨g,off+k*7+1,none⟩=some (zI zi kd)∧W.cell? ⟨g,off+k*7+2,none⟩=some (zI zi nw)∧W.cell? ⟨g,off+k*7+3,none⟩=some (zI zi jb)∧W.cell? ⟨g,off+k*7+4,none⟩=some (zI zi tr)∧W.cell? ⟨g,off+k*7+5,none⟩=some (zI zi wk)∧W.cell? ⟨g,off+k*7+6,none⟩=some (zI zi tm))∧W.cell? ⟨ga,0,none⟩=some (zI zi a0)∧W.cell? ⟨ga,1,none⟩=some (zI zi a1)∧W.cell? ⟨ga,2,none⟩=some (zI zi a2)) [6,7] (by kernel_rfl) (by kernel_rfl) (MKS.out _ _ (H4.out.drew.eq (by ac_rfl:_=bl ga 88 [zI zi a0,zI zi a1,zI zi a2]*(recs (.slice (some ⟨g,off,none⟩) L.length cc) L*(tb bb 96 T'*(revs u4 acc*old w)))))) ?_
   iterate 5 ((first|(refine LexL.none (by rfl) ?_;(try simp only [zP,zA,zB,zC]))|(refine LexL.still (v:=?_) (by rfl) ?_ ?_;rotate_left;(focus (intro W hW;(try dsimp only at hW);go_simp;(try (with_reducible rfl));done));(try simp only [zP,zA,zB,zC]))))
   refine LexL.still (v:=.agg #[zI zi ep2,zI zi kd,zI zi nw,zI zi jb,zI zi tr,zI zi wk,zI zi tm,zI zi a0,zI zi a1,zI zi a2,zI zi 0,zI zi 0,zI zi 0,zI zi 0]) (by rfl) (fun W hW=>exec_built 105 _ rfl [zI zi ep2,zI zi kd,zI zi nw,zI zi jb,zI zi tr,zI zi wk,zI zi tm,zI zi a0,zI zi a1,zI zi a2,zI zi 0,zI zi 0,zI zi 0,zI zi 0] (by kernel_rfl)) ?_
   try simp only [zP,zA,zB,zC]
   obtain ⟨ge,hge⟩:∃ ge,w4.drew.heap.size=ge:=⟨_,rfl⟩
   have hb:=H4.out.drew.boxB (ty:=105) (cs:=[zI zi 0,zI zi 0,zI zi 0,zI zi 0,zI zi 0,zI zi 0,zI zi 0,zI zi 0,zI zi 0,zI zi 0,zI zi 0,zI zi 0,zI zi 0,zI zi 0]) hge
   have HB:=zH hb;clear hb
   refine LexL.value (w1:=w4.drew.alloc (.cells #[zI zi 0,zI zi 0,zI zi 0,zI zi 0,zI zi 0,zI zi 0,zI zi 0,zI zi 0,zI zi 0,zI zi 0,zI zi 0,zI zi 0,zI zi 0,zI zi 0] 105)) (v:=.pointer (some ⟨w4.drew.heap.size,0,none⟩)) (by rfl) (by decide) (by go_simp) (MKS.out _ _ (HB.out.eq (by ac_rfl:_=bl ga 88 [zI zi a0,zI zi a1,zI zi a2]*(recs (.slice (some ⟨g,off,none⟩) L.length cc) L*(bl ge 105 [zI zi 0,zI zi 0,zI zi 0,zI zi 0,zI zi 0,zI zi 0,zI zi 0,zI zi 0,zI zi 0,zI zi 0,zI zi 0,zI zi 0,zI zi 0,zI zi 0]*(tb bb 96 T'*(revs u4 acc*old w))))))) ?_
   rw [hge]
   try simp only [zP,zA,zB,zC]
   refine LexL.storeB (q:=ge) (t:=105) (cs:=[zI zi 0,zI zi 0,zI zi 0,zI zi 0,zI zi 0,zI zi 0,zI zi 0,zI zi 0,zI zi 0,zI zi 0,zI zi 0,zI zi 0,zI zi 0,zI zi 0]) (B:=bl ga 88 [zI zi a0,zI zi a1,zI zi a2]*(tb bb 96 T'*(revs u4 acc*(recs (.slice (some ⟨g,off,none⟩) L.length cc) L*old w)))) 105 _ _ rfl [zI zi ep2,zI zi kd,zI zi nw,zI zi jb,zI zi tr,zI zi wk,zI zi tm,zI zi a0,zI zi a1,zI zi a2,zI zi 0,zI zi 0,zI zi 0,zI zi 0] rfl rfl rfl (by kernel_rfl) (evcells_ones ⟨⟨ep2,⟨kd,nw,jb,tr,wk,tm⟩⟩,⟨a0,a1,a2⟩,⟨0,0,0,0⟩⟩) (by rfl) (by decide) HB.out ?_
   intro w5 h5 q5
   have H5:=zH h5;have Q5:=zH ((Q4.out.drew.alloc (.cells #[zI zi 0,zI zi 0,zI zi 0,zI zi 0,zI zi 0,zI zi 0,zI zi 0,zI zi 0,zI zi 0,zI zi 0,zI zi 0,zI zi 0,zI zi 0,zI zi 0] 105)).trans q5)
   clear h5 q5 hge
   refine ⟨MKS.out _ _ (H5.out.eq (by ac_rfl:_=bl ga 88 [zI zi a0,zI zi a1,zI zi a2]*(recs (.slice (some ⟨g,off,none⟩) L.length cc) L*(bl ge 105 [zI zi ep2,zI zi kd,zI zi nw,zI zi jb,zI zi tr,zI zi wk,zI zi tm,zI zi a0,zI zi a1,zI zi a2,zI zi 0,zI zi 0,zI zi 0,zI zi 0]*(tb bb 96 T'*(revs u4 acc*old w)))))),?_⟩
   try simp only [zP,zA,zB,zC]
   refine LexL.done ?_
   clear HB H4 Q4
   by_cases hc:a0=0
   ·subst hc
    rw [if_pos rfl] at hev
    by_cases h2:kd=2
    ·subst h2
     rw [if_pos rfl] at hev
     obtain ⟨⟨s1,s2,s3,s4⟩,hJ⟩:∃ J,T'.job a1=J:=⟨_,rfl⟩
     rw [hJ] at hev
     have HJ:=zH hJ;clear hJ
     obtain ⟨⟨y0,y1,y2,y3,y4,y5,y6⟩,x0,x1,x2⟩:=MKS.out _ _ (H5.out.eq (by ac_rfl:_=bl ga 88 [zI zi 0,zI zi a1,zI zi a2]*(recs (.slice (some ⟨g,off,none⟩) L.length cc) L*(bl ge 105 [zI zi ep2,zI zi 2,zI zi nw,zI zi jb,zI zi tr,zI zi wk,zI zi tm,zI zi 0,zI zi a1,zI zi a2,zI zi 0,zI zi 0,zI zi 0,zI zi 0]*(tb bb 96 T'*(revs u4 acc*old w))))))
     go_wp2_with fail
     clear y0 y1 y2 y3 y4 y5 y6 x0 x1 x2
     refine (bjob_sl bb T' a1 _ H5.out.three).mono ?_
     rw [HJ.out]
     simp only [Job.val,jcells]
     rintro e w6 ⟨rfl,hb6⟩
     have H6:=zH (H5.out.below hb6);have Q6:=zH (Q5.out.trans (Quiet.below hb6))
     have ce:=H6.out.bl.cells
     have fe:=H6.out.bl.frees
     have le:=H6.out.bl.lt
     clear hb6 H5 Q5
     go_upto_region 11 with fail
     obtain ⟨w7,hw7,H7,Q7⟩:∃ w7,(((w6.setCell ⟨ge,10,none⟩ (zI zi s1)).setCell ⟨ge,11,none⟩ (zI zi s2)).setCell ⟨ge,12,none⟩ (zI zi s3)).setCell ⟨ge,13,none⟩ (zI zi s4)=w7∧Hid (Holds w7 (bl ge 105 [zI zi ep2,zI zi 2,zI zi nw,zI zi jb,zI zi tr,zI zi wk,zI zi tm,zI zi 0,zI zi a1,zI zi a2,zI zi s1,zI zi s2,zI zi s3,zI zi s4]*(bl ga 88 [zI zi 0,zI zi a1,zI zi a2]*(tb bb 96 T'*(revs u4 acc*(recs (.slice (some ⟨g,off,none⟩) L.length cc) L*old w))))))∧Hid (Quiet w w7):=
      ⟨_,rfl,zH ((((H6.out.setB 10 (zI zi s1)).setB 11 (zI zi s2)).setB 12 (zI zi s3)).setB 13 (zI zi s4)),zH ((((Q6.out.setCell _ _).setCell _ _).setCell _ _).setCell _ _)⟩
     rw [hw7]
     clear hw7 ce fe le H6 Q6
     obtain ⟨⟨y0,y1,y2,y3,y4,y5,y6⟩,x0,x1,x2⟩:=MKS.out _ _ (H7.out.eq (by ac_rfl:_=bl ga 88 [zI zi 0,zI zi a1,zI zi a2]*(recs (.slice (some ⟨g,off,none⟩) L.length cc) L*(bl ge 105 [zI zi ep2,zI zi 2,zI zi nw,zI zi jb,zI zi tr,zI zi wk,zI zi tm,zI zi 0,zI zi a1,zI zi a2,zI zi s1,zI zi s2,zI zi s3,zI zi s4]*(tb bb 96 T'*(revs u4 acc*old w))))))
     have ce:=H7.out.bl.cells
     have hn3:=(OwnRow.new w7 105 14 1 [zI zi ep2,zI zi 2,zI zi nw,zI zi jb,zI zi tr,zI zi wk,zI zi tm,zI zi 0,zI zi a1,zI zi a2,zI zi s1,zI zi s2,zI zi s3,zI zi s4] rfl (evcells_ones ⟨⟨ep2,⟨2,nw,jb,tr,wk,tm⟩⟩,⟨0,a1,a2⟩,⟨s1,s2,s3,s4⟩⟩) (by omega)).row
     have ho3:=(H7.out.alloc (.cells #[zI zi ep2,zI zi 2,zI zi nw,zI zi jb,zI zi tr,zI zi wk,zI zi tm,zI zi 0,zI zi a1,zI zi a2,zI zi s1,zI zi s2,zI zi s3,zI zi s4] 105)).four
     have HN3:=zH hn3;have HO3:=zH ho3;have QO3:=zH (Q7.out.alloc (.cells #[zI zi ep2,zI zi 2,zI zi nw,zI zi jb,zI zi tr,zI zi wk,zI zi tm,zI zi 0,zI zi a1,zI zi a2,zI zi s1,zI zi s2,zI zi s3,zI zi s4] 105));clear hn3 ho3
     go_wp2_with (at_builtin;refine wpList_append_sl rfl _ _ 100 rfl 105 i0 _ 14 112 Tryz.underlying100 HI.out HZ0.out HZ1.out HZ2.out rfl (by decide) rfl rfl HO3.out HN3.out rfl (evcells_ones ⟨⟨ep2,⟨2,nw,jb,tr,wk,tm⟩⟩,⟨0,a1,a2⟩,⟨s1,s2,s3,s4⟩⟩) (by omega) (by omega) ?_;intro v' w' hv' hq';have HV':=zH hv';have HQ':=zH hq';clear hv' hq')
     go_roundw
     case rel=>exact ⟨k+1,by omega,by go_num,by rw [hev.out,hrun.out];exact ((rev_fit acc ⟨⟨ep2,⟨2,nw,jb,tr,wk,tm⟩⟩,⟨0,a1,a2⟩,⟨s1,s2,s3,s4⟩⟩ HV'.out).eq (by ac_rfl:_=bl ge 105 [zI zi ep2,zI zi 2,zI zi nw,zI zi jb,zI zi tr,zI zi wk,zI zi tm,zI zi 0,zI zi a1,zI zi a2,zI zi s1,zI zi s2,zI zi s3,zI zi s4]*(bl ga 88 [zI zi 0,zI zi a1,zI zi a2]*(revs v' (acc++[⟨⟨ep2,⟨2,nw,jb,tr,wk,tm⟩⟩,⟨0,a1,a2⟩,⟨s1,s2,s3,s4⟩⟩])*(recs (.slice (some ⟨g,off,none⟩) L.length cc) L*(tb bb 96 T'*old w)))))).right.right,QO3.out.trans HQ'.out⟩
     case measure=>simp [intOf];omega
    ·have hk2:(kd==2)=false:=by simpa using h2
     have hk3:(kd != 2)=true:=by simpa using h2
     rw [if_neg h2] at hev
     clear h2
     obtain ⟨⟨s1,s2,s3,s4⟩,hJ⟩:∃ J,T'.job jb=J:=⟨_,rfl⟩
     rw [hJ] at hev
     have HJ:=zH hJ;clear hJ
     obtain ⟨⟨y0,y1,y2,y3,y4,y5,y6⟩,x0,x1,x2⟩:=MKS.out _ _ (H5.out.eq (by ac_rfl:_=bl ga 88 [zI zi 0,zI zi a1,zI zi a2]*(recs (.slice (some ⟨g,off,none⟩) L.length cc) L*(bl ge 105 [zI zi ep2,zI zi kd,zI zi nw,zI zi jb,zI zi tr,zI zi wk,zI zi tm,zI zi 0,zI zi a1,zI zi a2,zI zi 0,zI zi 0,zI zi 0,zI zi 0]*(tb bb 96 T'*(revs u4 acc*old w))))))
     go_wp2_with fail
     clear y0 y1 y2 y3 y4 y5 y6 x0 x1 x2
     refine (bjob_sl bb T' jb _ H5.out.three).mono ?_
     rw [HJ.out]
     simp only [Job.val,jcells]
     rintro e w6 ⟨rfl,hb6⟩
     have H6:=zH (H5.out.below hb6);have Q6:=zH (Q5.out.trans (Quiet.below hb6))
     have ce:=H6.out.bl.cells
     have fe:=H6.out.bl.frees
     have le:=H6.out.bl.lt
     clear hb6 H5 Q5
     go_upto_region 13 with fail
     obtain ⟨w7,hw7,H7,Q7⟩:∃ w7,(((w6.setCell ⟨ge,10,none⟩ (zI zi s1)).setCell ⟨ge,11,none⟩ (zI zi s2)).setCell ⟨ge,12,none⟩ (zI zi s3)).setCell ⟨ge,13,none⟩ (zI zi s4)=w7∧Hid (Holds w7 (bl ge 105 [zI zi ep2,zI zi kd,zI zi nw,zI zi jb,zI zi tr,zI zi wk,zI zi tm,zI zi 0,zI zi a1,zI zi a2,zI zi s1,zI zi s2,zI zi s3,zI zi s4]*(bl ga 88 [zI zi 0,zI zi a1,zI zi a2]*(tb bb 96 T'*(revs u4 acc*(recs (.slice (some ⟨g,off,none⟩) L.length cc) L*old w))))))∧Hid (Quiet w w7):=
      ⟨_,rfl,zH ((((H6.out.setB 10 (zI zi s1)).setB 11 (zI zi s2)).setB 12 (zI zi s3)).setB 13 (zI zi s4)),zH ((((Q6.out.setCell _ _).setCell _ _).setCell _ _).setCell _ _)⟩
     rw [hw7]
     clear hw7 ce fe le H6 Q6
     have ce:=H7.out.bl.cells
     have hn3:=(OwnRow.new w7 105 14 1 [zI zi ep2,zI zi kd,zI zi nw,zI zi jb,zI zi tr,zI zi wk,zI zi tm,zI zi 0,zI zi a1,zI zi a2,zI zi s1,zI zi s2,zI zi s3,zI zi s4] rfl (evcells_ones ⟨⟨ep2,⟨kd,nw,jb,tr,wk,tm⟩⟩,⟨0,a1,a2⟩,⟨s1,s2,s3,s4⟩⟩) (by omega)).row
     have ho3:=(H7.out.alloc (.cells #[zI zi ep2,zI zi kd,zI zi nw,zI zi jb,zI zi tr,zI zi wk,zI zi tm,zI zi 0,zI zi a1,zI zi a2,zI zi s1,zI zi s2,zI zi s3,zI zi s4] 105)).four
     have HN3:=zH hn3;have HO3:=zH ho3;have QO3:=zH (Q7.out.alloc (.cells #[zI zi ep2,zI zi kd,zI zi nw,zI zi jb,zI zi tr,zI zi wk,zI zi tm,zI zi 0,zI zi a1,zI zi a2,zI zi s1,zI zi s2,zI zi s3,zI zi s4] 105));clear hn3 ho3
     go_wp2_with (at_builtin;refine wpList_append_sl rfl _ _ 100 rfl 105 i0 _ 14 112 Tryz.underlying100 HI.out HZ0.out HZ1.out HZ2.out rfl (by decide) rfl rfl HO3.out HN3.out rfl (evcells_ones ⟨⟨ep2,⟨kd,nw,jb,tr,wk,tm⟩⟩,⟨0,a1,a2⟩,⟨s1,s2,s3,s4⟩⟩) (by omega) (by omega) ?_;intro v' w' hv' hq';have HV':=zH hv';have HQ':=zH hq';clear hv' hq')
     go_roundw
     case rel=>exact ⟨k+1,by omega,by go_num,by rw [hev.out,hrun.out];exact ((rev_fit acc ⟨⟨ep2,⟨kd,nw,jb,tr,wk,tm⟩⟩,⟨0,a1,a2⟩,⟨s1,s2,s3,s4⟩⟩ HV'.out).eq (by ac_rfl:_=bl ge 105 [zI zi ep2,zI zi kd,zI zi nw,zI zi jb,zI zi tr,zI zi wk,zI zi tm,zI zi 0,zI zi a1,zI zi a2,zI zi s1,zI zi s2,zI zi s3,zI zi s4]*(bl ga 88 [zI zi 0,zI zi a1,zI zi a2]*(revs v' (acc++[⟨⟨ep2,⟨kd,nw,jb,tr,wk,tm⟩⟩,⟨0,a1,a2⟩,⟨s1,s2,s3,s4⟩⟩])*(recs (.slice (some ⟨g,off,none⟩) L.length cc) L*(tb bb 96 T'*old w)))))).right.right,QO3.out.trans HQ'.out⟩
     case measure=>simp [intOf];omega
   ·have hc2:(a0==0)=false:=by simpa using hc
    rw [if_neg hc] at hev
    clear hc
    obtain ⟨⟨y0,y1,y2,y3,y4,y5,y6⟩,x0,x1,x2⟩:=MKS.out _ _ (H5.out.eq (by ac_rfl:_=bl ga 88 [zI zi a0,zI zi a1,zI zi a2]*(recs (.slice (some ⟨g,off,none⟩) L.length cc) L*(bl ge 105 [zI zi ep2,zI zi kd,zI zi nw,zI zi jb,zI zi tr,zI zi wk,zI zi tm,zI zi a0,zI zi a1,zI zi a2,zI zi 0,zI zi 0,zI zi 0,zI zi 0]*(tb bb 96 T'*(revs u4 acc*old w))))))
    have ce:=H5.out.bl.cells
    have hn3:=(OwnRow.new w5 105 14 1 [zI zi ep2,zI zi kd,zI zi nw,zI zi jb,zI zi tr,zI zi wk,zI zi tm,zI zi a0,zI zi a1,zI zi a2,zI zi 0,zI zi 0,zI zi 0,zI zi 0] rfl (evcells_ones ⟨⟨ep2,⟨kd,nw,jb,tr,wk,tm⟩⟩,⟨a0,a1,a2⟩,⟨0,0,0,0⟩⟩) (by omega)).row
    have ho3:=(H5.out.alloc (.cells #[zI zi ep2,zI zi kd,zI zi nw,zI zi jb,zI zi tr,zI zi wk,zI zi tm,zI zi a0,zI zi a1,zI zi a2,zI zi 0,zI zi 0,zI zi 0,zI zi 0] 105)).four
    have HN3:=zH hn3;have HO3:=zH ho3;have QO3:=zH (Q5.out.alloc (.cells #[zI zi ep2,zI zi kd,zI zi nw,zI zi jb,zI zi tr,zI zi wk,zI zi tm,zI zi a0,zI zi a1,zI zi a2,zI zi 0,zI zi 0,zI zi 0,zI zi 0] 105));clear hn3 ho3
    go_wp2_with (at_builtin;refine wpList_append_sl rfl _ _ 100 rfl 105 i0 _ 14 112 Tryz.underlying100 HI.out HZ0.out HZ1.out HZ2.out rfl (by decide) rfl rfl HO3.out HN3.out rfl (evcells_ones ⟨⟨ep2,⟨kd,nw,jb,tr,wk,tm⟩⟩,⟨a0,a1,a2⟩,⟨0,0,0,0⟩⟩) (by omega) (by omega) ?_;intro v' w' hv' hq';have HV':=zH hv';have HQ':=zH hq';clear hv' hq')
    go_roundw
    case rel=>exact ⟨k+1,by omega,by go_num,by rw [hev.out,hrun.out];exact ((rev_fit acc ⟨⟨ep2,⟨kd,nw,jb,tr,wk,tm⟩⟩,⟨a0,a1,a2⟩,⟨0,0,0,0⟩⟩ HV'.out).eq (by ac_rfl:_=bl ge 105 [zI zi ep2,zI zi kd,zI zi nw,zI zi jb,zI zi tr,zI zi wk,zI zi tm,zI zi a0,zI zi a1,zI zi a2,zI zi 0,zI zi 0,zI zi 0,zI zi 0]*(bl ga 88 [zI zi a0,zI zi a1,zI zi a2]*(revs v' (acc++[⟨⟨ep2,⟨kd,nw,jb,tr,wk,tm⟩⟩,⟨a0,a1,a2⟩,⟨0,0,0,0⟩⟩])*(recs (.slice (some ⟨g,off,none⟩) L.length cc) L*(tb bb 96 T'*old w)))))).right.right,QO3.out.trans HQ'.out⟩
    case measure=>simp [intOf];omega
  ·obtain rfl:k=L.length:=by omega
   go_wp2
   go_ret
   exact ⟨_,rfl,hq,by rw [List.take_length] at hh;exact (hh.eq (by ac_rfl:_=recs (.slice a L.length cc) L*(tb bb 96 (runL Tbl.zero L)*(revs u4 (evs Tbl.zero L)*old w)))).right.right⟩
theorem eventsOf_sl (v:Value) (b:List UInt8) (w:World) (h:BytesAt w v b) (hl:b.length≤100000) {R:HP} (hr:Holds w R):Calls Tryz.prog 37 #[v] w (PostX w R (fun v=>v) fun v=>revs v (evs Tbl.zero (allB b))):=
 (eventsOf_any v b w h hl).mono fun e w' ⟨x,he,hq,hh⟩=>⟨x,he,hq,hh.frame hr⟩
end Go.Proofs.YtfihmpkkpgmdhaaGreatDoor
end
