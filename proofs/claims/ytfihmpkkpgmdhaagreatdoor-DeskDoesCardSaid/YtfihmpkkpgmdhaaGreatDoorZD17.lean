/-
  What the proof of DeskDoes leans on: definitions, laws, contracts of functions. No condition besides those that each theorem names.
-/
import Derived.Test.YtfihmpkkpgmdhaaGreatDoorZD10
import Derived.Test.YtfihmpkkpgmdhaaGreatDoorZD08
import Derived.Deep.Cut
set_option maxRecDepth 100000
set_option maxHeartbeats 16000000
set_option linter.unusedVariables false
set_option linter.unusedSimpArgs false
set_option linter.unnecessarySimpa false
namespace Go.Proofs.YtfihmpkkpgmdhaaGreatDoor
open Go.RowKit
open Go.Lib renaming hid → zH
open Go.Value renaming int → zI
open Go.IntKind renaming i64 → zi
def DidPost (w:World) (x:Tbl×Ans) (e:Ending) (w':World):Prop:=
 e=.returned (.tuple #[.agg (tcells x.1).toArray,.agg #[zI zi x.2.code,zI zi x.2.job,zI zi x.2.tr]])∧Below w.heap.size w w'
theorem bdid_no (t:Tbl) (kd nw jb tr wk tm:Int) (w:World) (ho:chk ⟨kd,nw,jb,tr,wk,tm⟩≠0):Calls Tryz.prog 93 #[.agg (tcells t).toArray,.agg #[zI zi kd,zI zi nw,zI zi jb,zI zi tr,zI zi wk,zI zi tm]] w (DidPost w (t.did ⟨kd,nw,jb,tr,wk,tm⟩)):=by
 rw [did_no ho]
 obtain ⟨C,hC⟩:∃ C,chk ⟨kd,nw,jb,tr,wk,tm⟩=C:=⟨_,rfl⟩
 rw [hC]
 have hc1:(C != 0)=true:=by rw [hC] at ho;simpa using ho
 have HC:=zH hC;clear hC ho
 have h0:=((((Holds.old (w:=w)).boxB (ty:=96) (cs:=tcells t) rfl).boxB (ty:=84) (cs:=[zI zi kd,zI zi nw,zI zi jb,zI zi tr,zI zi wk,zI zi tm]) (g:=w.heap.size+1) (by simp)).boxB (ty:=96) (cs:=tcells Tbl.zero) (g:=w.heap.size+1+1) (by simp)).boxB (ty:=88) (cs:=[zI zi 0,zI zi 0,zI zi 0]) (g:=w.heap.size+1+1+1) (by simp)
 have H0:=zH h0;clear h0
 have q0:=((((Quiet.refl w).alloc (.cells (tcells t).toArray 96)).alloc (.cells ([zI zi kd,zI zi nw,zI zi jb,zI zi tr,zI zi wk,zI zi tm]:List Value).toArray 84)).alloc (.cells (tcells Tbl.zero).toArray 96)).alloc (.cells ([zI zi 0,zI zi 0,zI zi 0]:List Value).toArray 88)
 have Q0:=zH q0;clear q0
 go_enter Tryz.func93,Tryz.ntmps93
 go_wp2_with fail
 refine (ofault_any kd nw jb tr wk tm _).mono ?_
 rw [HC.out]
 rintro e w1 ⟨rfl,hb1⟩
 have H1:=zH (H0.out.below hb1);have Q1:=zH (Q0.out.trans (Quiet.below hb1));clear hb1 H0 Q0
 have x1:=H1.out.right.right.bl.cells
 have HS0:=zH H1.out.right.right.right.bl
 go_wp2_with (first|(refine wpList_load_whole rfl 96 _ rfl w.heap.size rfl (tcells t) HS0.out Tryz.underlying96 rfl (by kernel_rfl) ?_)|(refine wpList_store_whole rfl 96 _ _ rfl (w.heap.size+1+1) (tcells t) rfl rfl H1.out.two.bl (by simp [tcells_len]) (by kernel_rfl) (tcells_ones t) ?_;intro w' h1' h2' h3';have HE:=zH (H1.out.two.grown h2' h1').two;have QE:=zH (Quiet.grown h2');have fe:=HE.out.bl.frees;have ce:=HE.out.bl.cells;have le:=HE.out.bl.lt;clear h1' h2' h3'))
 have hf:=((HE.out.setB 0 (zI zi C)).setB 1 (zI zi 0)).setB 2 (zI zi 0)
 have hl1:=run_load_part (P:=Tryz.prog) (off:=0) (ty:=88) (vs:=[zI zi C,zI zi 0,zI zi 0]) hf.bl rfl Tryz.underlying88 rfl (by kernel_rfl)
 have hl2:=run_load_part (P:=Tryz.prog) (off:=0) (ty:=96) (vs:=tcells t) hf.two.bl (by simp) Tryz.underlying96 rfl (by kernel_rfl)
 exact bodyPost_ret (results_cell2 rfl rfl rfl hl2 hl1) rfl ⟨rfl,hf.right.right.right.right.toBelow' ((((Q1.out.trans QE.out).setCell _ _).setCell _ _).setCell _ _)⟩
theorem bdid_take (t:Tbl) (nw jb tr wk tm:Int) (w:World) (hok:t.Ok) (ho:chk ⟨2,nw,jb,tr,wk,tm⟩=0):Calls Tryz.prog 93 #[.agg (tcells t).toArray,.agg #[zI zi 2,zI zi nw,zI zi jb,zI zi tr,zI zi wk,zI zi tm]] w (DidPost w (t.did ⟨2,nw,jb,tr,wk,tm⟩)):=by
 obtain ⟨X,hX⟩:∃ X,t.did ⟨2,nw,jb,tr,wk,tm⟩=X:=⟨_,rfl⟩
 rw [hX]
 have HX:=zH hX;clear hX
 have HO:=zH ho;clear ho
 have hok':=pass_ok hok (chk_more HO.out).1.2
 have htm:=(chk_more HO.out).2.2.1 (.inl rfl)
 have htm0:=htm.1
 have htm1:=htm.2
 have HOK:=zH hok';clear hok hok' htm
 have h0:=((((Holds.old (w:=w)).boxB (ty:=96) (cs:=tcells t) rfl).boxB (ty:=84) (cs:=[zI zi 2,zI zi nw,zI zi jb,zI zi tr,zI zi wk,zI zi tm]) (g:=w.heap.size+1) (by simp)).boxB (ty:=96) (cs:=tcells Tbl.zero) (g:=w.heap.size+1+1) (by simp)).boxB (ty:=88) (cs:=[zI zi 0,zI zi 0,zI zi 0]) (g:=w.heap.size+1+1+1) (by simp)
 have H0:=zH h0;clear h0
 have q0:=((((Quiet.refl w).alloc (.cells (tcells t).toArray 96)).alloc (.cells ([zI zi 2,zI zi nw,zI zi jb,zI zi tr,zI zi wk,zI zi tm]:List Value).toArray 84)).alloc (.cells (tcells Tbl.zero).toArray 96)).alloc (.cells ([zI zi 0,zI zi 0,zI zi 0]:List Value).toArray 88)
 have Q0:=zH q0;clear q0
 go_enter Tryz.func93,Tryz.ntmps93
 go_wp2_with fail
 refine (ofault_any 2 nw jb tr wk tm _).mono ?_
 rw [HO.out]
 rintro e w1 ⟨rfl,hb1⟩
 have H1:=zH (H0.out.below hb1);have Q1:=zH (Q0.out.trans (Quiet.below hb1));clear hb1 H0 Q0
 have x1:=H1.out.right.right.bl.cells
 have HS0:=zH H1.out.right.right.right.bl
 go_wp2_with (refine wpList_load_whole rfl 96 _ rfl w.heap.size rfl (tcells t) HS0.out Tryz.underlying96 rfl (by kernel_rfl) ?_)
 refine (later_any t nw _).mono ?_
 rintro e w2 ⟨rfl,hb2⟩
 obtain ⟨P,hP⟩:∃ P,t.pass nw=P:=⟨_,rfl⟩
 rw [hP]
 have HP:=zH hP;clear hP
 have H2:=zH (H1.out.below hb2);have Q2:=zH (Q1.out.trans (Quiet.below hb2));clear hb2 x1 HS0 H1 Q1
 rw [HP.out] at HOK
 have hn0:=HOK.out.now.1
 have hn1:=HOK.out.now.2
 go_wp2_with (refine wpList_store_whole rfl 96 _ _ rfl w2.heap.size (tcells P) rfl rfl (BlockAt.new w2 96 (tcells Tbl.zero)) (by simp [tcells_len]) (by kernel_rfl) (tcells_ones P) ?_;intro w3 h1' h2' h3';have H3:=zH ((H2.out.allocB 96 (tcells Tbl.zero)).grown h2' h1');have Q3:=zH ((Q2.out.alloc (.cells (tcells Tbl.zero).toArray 96)).trans (Quiet.grown h2'));have x1:=H3.out.right.right.right.bl.cells;have HS0:=zH H3.out.right.right.right.right.bl;have HS4:=zH H3.out.bl;have f4:=HS4.out.frees;have c24:=HS4.out.cell 24 _ rfl;clear h1' h2' h3')
 go_loopw [8] (fun i wr=>∃ q:Nat,q≤6∧i=zI zi q∧wr=w3∧Hid (∀ i,i<q→(P.jobs i).st≠1)) (fun i _=>6-(intOf i).toNat)
 case atStart=>exact ⟨0,by omega,rfl,rfl,by simp [Hid]⟩
 case round=>
  obtain ⟨q,hq,rfl,rfl,hno⟩:=hrel
  by_cases hlt:q<6
  ·obtain ⟨c0,c1,c2,c3⟩:=HS4.out.job hlt
   have ht0:=(HOK.out.jobs q).tr.1
   have ht1:=(HOK.out.jobs q).tr.2
   by_cases hs:(P.jobs q).st=1
   ·have hs1:((P.jobs q).st==1)=true:=by simpa using hs
    have hx:X=(P.set q ⟨2,wk,(P.jobs q).tr+1,P.now+tm⟩,⟨0,q,(P.jobs q).tr+1⟩):=by
     rw [←HX.out]
     refine did_of HO.out ?_ rfl
     rw [act_take,HP.out,ctake,firstW_some 6 0 q (fun j _ hj=>hno.out j hj) (by omega) (by omega) hs]
    subst hx
    have HS:=zH hs;clear hs
    go_upto_region 12 with fail
    have hg:Holds ((((wr.setCell ⟨w2.heap.size,q*4,none⟩ (zI zi 2)).setCell ⟨w2.heap.size,q*4+1,none⟩ (zI zi wk)).setCell ⟨w2.heap.size,q*4+2,none⟩ (zI zi ((P.jobs q).tr+1))).setCell ⟨w2.heap.size,q*4+3,none⟩ (zI zi (P.now+tm))) _:=Holds.setJob H3.out hlt ⟨2,wk,(P.jobs q).tr+1,P.now+tm⟩
    have qg:=((((Q3.out.setCell ⟨w2.heap.size,q*4,none⟩ (zI zi 2)).setCell ⟨w2.heap.size,q*4+1,none⟩ (zI zi wk)).setCell ⟨w2.heap.size,q*4+2,none⟩ (zI zi ((P.jobs q).tr+1))).setCell ⟨w2.heap.size,q*4+3,none⟩ (zI zi (P.now+tm)))
    obtain ⟨PT,hPT⟩:∃ PT,(P.set q ⟨2,wk,(P.jobs q).tr+1,P.now+tm⟩)=PT:=⟨_,rfl⟩
    obtain ⟨we,hwe⟩:∃ we,(((wr.setCell ⟨w2.heap.size,q*4,none⟩ (zI zi 2)).setCell ⟨w2.heap.size,q*4+1,none⟩ (zI zi wk)).setCell ⟨w2.heap.size,q*4+2,none⟩ (zI zi ((P.jobs q).tr+1))).setCell ⟨w2.heap.size,q*4+3,none⟩ (zI zi (P.now+tm))=we:=⟨_,rfl⟩
    obtain ⟨n9,hn9⟩:∃ n9,(P.jobs q).tr+1=n9:=⟨_,rfl⟩
    rw [hwe,hPT] at hg
    rw [hwe] at qg ⊢
    have HG:=zH hg;have QG:=zH qg;have HPT:=zH hPT
    clear hg qg hPT hwe c0 c1 c2 c3 c24 x1 f4 HS0 HS4 ht0 ht1 H3 Q3
    go_wp2_with (first|(refine wpList_load_whole rfl 96 _ rfl w2.heap.size rfl (tcells PT) HG.out.tb Tryz.underlying96 rfl (by kernel_rfl) ?_)|(refine wpList_store_whole rfl 96 _ _ rfl (w.heap.size+1+1) (tcells PT) rfl rfl HG.out.three.bl (by simp [tcells_len]) (by kernel_rfl) (tcells_ones PT) ?_;intro w' h1' h2' h3';have HE:=zH (HG.out.three.grown h2' h1').three;have QE:=zH (Quiet.grown h2');have fe:=HE.out.bl.frees;have ce:=HE.out.bl.cells;have le:=HE.out.bl.lt;clear h1' h2' h3'))
    have hf:=((HE.out.setB 0 (zI zi 0)).setB 1 (zI zi q)).setB 2 (zI zi n9)
    have hl1:=run_load_part (P:=Tryz.prog) (off:=0) (ty:=88) (vs:=[zI zi 0,zI zi q,zI zi n9]) hf.bl rfl Tryz.underlying88 rfl (by kernel_rfl)
    have hl2:=run_load_part (P:=Tryz.prog) (off:=0) (ty:=96) (vs:=tcells PT) hf.two.bl (by simp) Tryz.underlying96 rfl (by kernel_rfl)
    exact bodyPost_ret (results_cell2 rfl rfl rfl hl2 hl1) rfl ⟨by rw [←HPT.out,hn9],hf.right.right.right.right.right.toBelow' ((((QG.out.trans QE.out).setCell _ _).setCell _ _).setCell _ _)⟩
   ·have hs1:((P.jobs q).st==1)=false:=by simpa using hs
    have HS:=zH hs;clear hs
    go_wp2
    go_roundw
    case rel=>exact ⟨q+1,by omega,by go_num,(by first|trivial|rfl),fun i hi=>by
     by_cases e:i=q
     ·subst e;exact HS.out
     ·exact hno.out i (by omega)⟩
    case measure=>simp [intOf];omega
  ·obtain rfl:q=6:=by omega
   have hx:X=(t,⟨5,0,0⟩):=by
    rw [←HX.out]
    refine did_not HO.out (p:=P) ?_ (by simp)
    rw [act_take,HP.out,ctake,firstW_none 6 0 (fun j _ hj=>hno.out j (by omega))]
   subst hx
   have HG:=zH (H3.out);
   go_wp2_with (first|(refine wpList_load_whole rfl 96 _ rfl w.heap.size rfl (tcells t) HG.out.right.right.right.right.bl Tryz.underlying96 rfl (by kernel_rfl) ?_)|(refine wpList_store_whole rfl 96 _ _ rfl (w.heap.size+1+1) (tcells t) rfl rfl HG.out.three.bl (by simp [tcells_len]) (by kernel_rfl) (tcells_ones t) ?_;intro w' h1' h2' h3';have HE:=zH (HG.out.three.grown h2' h1').three;have QE:=zH (Quiet.grown h2');have fe:=HE.out.bl.frees;have ce:=HE.out.bl.cells;have le:=HE.out.bl.lt;clear h1' h2' h3'))
   have hf:=((HE.out.setB 0 (zI zi 5)).setB 1 (zI zi 0)).setB 2 (zI zi 0)
   have hl1:=run_load_part (P:=Tryz.prog) (off:=0) (ty:=88) (vs:=[zI zi 5,zI zi 0,zI zi 0]) hf.bl rfl Tryz.underlying88 rfl (by kernel_rfl)
   have hl2:=run_load_part (P:=Tryz.prog) (off:=0) (ty:=96) (vs:=tcells t) hf.two.bl (by simp) Tryz.underlying96 rfl (by kernel_rfl)
   exact bodyPost_ret (results_cell2 rfl rfl rfl hl2 hl1) rfl ⟨rfl,hf.right.right.right.right.right.toBelow' ((((Q3.out.trans QE.out).setCell _ _).setCell _ _).setCell _ _)⟩
theorem bdid_add1 (t:Tbl) (nw tr wk tm:Int) (q:Nat) (w:World) (hok:t.Ok) (ho:chk ⟨1,nw,(q:Int),tr,wk,tm⟩=0) (hq6:q<6) (hs:((t.pass nw).jobs q).st≠0):Calls Tryz.prog 93 #[.agg (tcells t).toArray,.agg #[zI zi 1,zI zi nw,zI zi (q:Int),zI zi tr,zI zi wk,zI zi tm]] w (DidPost w (t.did ⟨1,nw,(q:Int),tr,wk,tm⟩)):=by
 have HO:=zH ho;clear ho
 have hok':=pass_ok hok (chk_more HO.out).1.2
 have HOK:=zH hok';clear hok hok'
 have htm0:=(chk_zero HO.out).2.2.2.1
 have htm1:=(chk_zero HO.out).2.2.2.2
 dsimp only at htm0 htm1
 obtain ⟨X,hX⟩:∃ X,t.did ⟨1,nw,(q:Int),tr,wk,tm⟩=X:=⟨_,rfl⟩
 rw [hX]
 have HX:=zH hX;clear hX
 have h0:=((((Holds.old (w:=w)).boxB (ty:=96) (cs:=tcells t) rfl).boxB (ty:=84) (cs:=[zI zi 1,zI zi nw,zI zi (q:Int),zI zi tr,zI zi wk,zI zi tm]) (g:=w.heap.size+1) (by simp)).boxB (ty:=96) (cs:=tcells Tbl.zero) (g:=w.heap.size+1+1) (by simp)).boxB (ty:=88) (cs:=[zI zi 0,zI zi 0,zI zi 0]) (g:=w.heap.size+1+1+1) (by simp)
 have H0:=zH h0;clear h0
 have q0:=((((Quiet.refl w).alloc (.cells (tcells t).toArray 96)).alloc (.cells ([zI zi 1,zI zi nw,zI zi (q:Int),zI zi tr,zI zi wk,zI zi tm]:List Value).toArray 84)).alloc (.cells (tcells Tbl.zero).toArray 96)).alloc (.cells ([zI zi 0,zI zi 0,zI zi 0]:List Value).toArray 88)
 have Q0:=zH q0;clear q0
 go_enter Tryz.func93,Tryz.ntmps93
 go_wp2_with fail
 refine (ofault_any 1 nw (q:Int) tr wk tm _).mono ?_
 rw [HO.out]
 rintro e w1 ⟨rfl,hb1⟩
 have H1:=zH (H0.out.below hb1);have Q1:=zH (Q0.out.trans (Quiet.below hb1));clear hb1 H0 Q0
 have x1:=H1.out.right.right.bl.cells
 have HS0:=zH H1.out.right.right.right.bl
 go_wp2_with (refine wpList_load_whole rfl 96 _ rfl w.heap.size rfl (tcells t) HS0.out Tryz.underlying96 rfl (by kernel_rfl) ?_)
 refine (later_any t nw _).mono ?_
 rintro e w2 ⟨rfl,hb2⟩
 obtain ⟨P,hP⟩:∃ P,t.pass nw=P:=⟨_,rfl⟩
 rw [hP]
 have HP:=zH hP;clear hP
 have H2:=zH (H1.out.below hb2);have Q2:=zH (Q1.out.trans (Quiet.below hb2));clear hb2 x1 HS0 H1 Q1
 rw [HP.out] at HOK
 have hn0:=HOK.out.now.1
 have hn1:=HOK.out.now.2
 obtain ⟨⟨s0,k0,r0,u0⟩,hJ⟩:∃ J,P.jobs q=J:=⟨_,rfl⟩
 have HJ:=zH hJ
 rw [HP.out,hJ] at hs
 dsimp only at hs
 have hs1:(s0 != 0)=true:=by simpa using hs
 have hx:X=(t,⟨4,0,0⟩):=by
  rw [←HX.out]
  refine did_not HO.out (p:=P) ?_ (by simp)
  dsimp only
  rw [HP.out]
  simp [Tbl.act,hJ,hs]
 subst hx
 have HS:=zH hs;clear hs
 clear hJ
 go_upto_region 14 with (refine wpList_store_whole rfl 96 _ _ rfl w2.heap.size (tcells P) rfl rfl (BlockAt.new w2 96 (tcells Tbl.zero)) (by simp [tcells_len]) (by kernel_rfl) (tcells_ones P) ?_;intro w3 h1' h2' h3';have H3:=zH ((H2.out.allocB 96 (tcells Tbl.zero)).grown h2' h1');have Q3:=zH ((Q2.out.alloc (.cells (tcells Tbl.zero).toArray 96)).trans (Quiet.grown h2'));have x1:=H3.out.right.right.right.bl.cells;have HS4:=zH H3.out.bl;clear h1' h2' h3')
 obtain ⟨c0,c1,c2,c3⟩:=HS4.out.job hq6
 rw [HJ.out] at c0 c1 c2 c3
 dsimp only at c0 c1 c2 c3
 go_upto_region 15 with fail
 have h4:=(H3.out.boxB (ty:=92) (cs:=[zI zi s0,zI zi k0,zI zi r0,zI zi u0]) rfl)
 have q4:=(Q3.out.alloc (.cells ([zI zi s0,zI zi k0,zI zi r0,zI zi u0]:List Value).toArray 92))
 obtain ⟨w4,hw4⟩:∃ w4,w3.alloc (.cells ([zI zi s0,zI zi k0,zI zi r0,zI zi u0]:List Value).toArray 92)=w4:=⟨_,rfl⟩
 obtain ⟨bj,hbj⟩:∃ bj,w3.heap.size=bj:=⟨_,rfl⟩
 obtain ⟨b4,hb4⟩:∃ b4,w2.heap.size=b4:=⟨_,rfl⟩
 rw [hw4,hbj] at h4
 rw [hb4] at h4
 rw [hw4] at q4
 have hw4':w3.alloc (.cells #[zI zi s0,zI zi k0,zI zi r0,zI zi u0] 92)=w4:=hw4
 rw [hw4',hbj,hb4]
 clear c0 c1 c2 c3 HS4 x1 hw4 hw4' hbj hb4 H3 Q3 H2 Q2
 have x1:=h4.right.right.right.right.bl.cells
 have xj:=h4.bl.cells
 have HS4:=zH h4.two.bl
 have f4:=HS4.out.frees
 have l4:=HS4.out.lt
 have lj:=h4.bl.lt
 obtain ⟨c0,c1,c2,c3⟩:=HS4.out.job hq6
 rw [HJ.out] at c0 c1 c2 c3
 dsimp only at c0 c1 c2 c3
 have H4:=zH h4;have Q4:=zH q4;clear h4 q4
 go_wp2_with (first|(refine wpList_load_whole rfl 96 _ rfl w.heap.size rfl (tcells t) H4.out.right.right.right.right.right.bl Tryz.underlying96 rfl (by kernel_rfl) ?_)|(refine wpList_store_whole rfl 96 _ _ rfl (w.heap.size+1+1) (tcells t) rfl rfl H4.out.four.bl (by simp [tcells_len]) (by kernel_rfl) (tcells_ones t) ?_;intro w' h1' h2' h3';have HE:=zH (H4.out.four.grown h2' h1').four;have QE:=zH (Quiet.grown h2');have fe:=HE.out.bl.frees;have ce:=HE.out.bl.cells;have le:=HE.out.bl.lt;clear h1' h2' h3'))
 have hf:=((HE.out.setB 0 (zI zi 4)).setB 1 (zI zi 0)).setB 2 (zI zi 0)
 have hl1:=run_load_part (P:=Tryz.prog) (off:=0) (ty:=88) (vs:=[zI zi 4,zI zi 0,zI zi 0]) hf.bl rfl Tryz.underlying88 rfl (by kernel_rfl)
 have hl2:=run_load_part (P:=Tryz.prog) (off:=0) (ty:=96) (vs:=tcells t) hf.two.bl (by simp) Tryz.underlying96 rfl (by kernel_rfl)
 exact bodyPost_ret (results_cell2 rfl rfl rfl hl2 hl1) rfl ⟨rfl,hf.right.right.right.right.right.right.toBelow' ((((Q4.out.trans QE.out).setCell _ _).setCell _ _).setCell _ _)⟩
theorem bdid_add0 (t:Tbl) (nw tr wk tm:Int) (q:Nat) (w:World) (hok:t.Ok) (ho:chk ⟨1,nw,(q:Int),tr,wk,tm⟩=0) (hq6:q<6) (hs:((t.pass nw).jobs q).st=0):Calls Tryz.prog 93 #[.agg (tcells t).toArray,.agg #[zI zi 1,zI zi nw,zI zi (q:Int),zI zi tr,zI zi wk,zI zi tm]] w (DidPost w (t.did ⟨1,nw,(q:Int),tr,wk,tm⟩)):=by
 have HO:=zH ho;clear ho
 have hok':=pass_ok hok (chk_more HO.out).1.2
 have HOK:=zH hok';clear hok hok'
 have htm0:=(chk_zero HO.out).2.2.2.1
 have htm1:=(chk_zero HO.out).2.2.2.2
 dsimp only at htm0 htm1
 obtain ⟨X,hX⟩:∃ X,t.did ⟨1,nw,(q:Int),tr,wk,tm⟩=X:=⟨_,rfl⟩
 rw [hX]
 have HX:=zH hX;clear hX
 have h0:=((((Holds.old (w:=w)).boxB (ty:=96) (cs:=tcells t) rfl).boxB (ty:=84) (cs:=[zI zi 1,zI zi nw,zI zi (q:Int),zI zi tr,zI zi wk,zI zi tm]) (g:=w.heap.size+1) (by simp)).boxB (ty:=96) (cs:=tcells Tbl.zero) (g:=w.heap.size+1+1) (by simp)).boxB (ty:=88) (cs:=[zI zi 0,zI zi 0,zI zi 0]) (g:=w.heap.size+1+1+1) (by simp)
 have H0:=zH h0;clear h0
 have q0:=((((Quiet.refl w).alloc (.cells (tcells t).toArray 96)).alloc (.cells ([zI zi 1,zI zi nw,zI zi (q:Int),zI zi tr,zI zi wk,zI zi tm]:List Value).toArray 84)).alloc (.cells (tcells Tbl.zero).toArray 96)).alloc (.cells ([zI zi 0,zI zi 0,zI zi 0]:List Value).toArray 88)
 have Q0:=zH q0;clear q0
 go_enter Tryz.func93,Tryz.ntmps93
 go_wp2_with fail
 refine (ofault_any 1 nw (q:Int) tr wk tm _).mono ?_
 rw [HO.out]
 rintro e w1 ⟨rfl,hb1⟩
 have H1:=zH (H0.out.below hb1);have Q1:=zH (Q0.out.trans (Quiet.below hb1));clear hb1 H0 Q0
 have x1:=H1.out.right.right.bl.cells
 have HS0:=zH H1.out.right.right.right.bl
 go_wp2_with (refine wpList_load_whole rfl 96 _ rfl w.heap.size rfl (tcells t) HS0.out Tryz.underlying96 rfl (by kernel_rfl) ?_)
 refine (later_any t nw _).mono ?_
 rintro e w2 ⟨rfl,hb2⟩
 obtain ⟨P,hP⟩:∃ P,t.pass nw=P:=⟨_,rfl⟩
 rw [hP]
 have HP:=zH hP;clear hP
 have H2:=zH (H1.out.below hb2);have Q2:=zH (Q1.out.trans (Quiet.below hb2));clear hb2 x1 HS0 H1 Q1
 rw [HP.out] at HOK
 have hn0:=HOK.out.now.1
 have hn1:=HOK.out.now.2
 obtain ⟨⟨s0,k0,r0,u0⟩,hJ⟩:∃ J,P.jobs q=J:=⟨_,rfl⟩
 have HJ:=zH hJ
 rw [HP.out,hJ] at hs
 dsimp only at hs
 have hs1:(s0 != 0)=false:=by simpa using hs
 have hx:X=(P.set q ⟨1,0,0,0⟩,⟨0,0,0⟩):=by
  rw [←HX.out]
  refine did_of HO.out ?_ rfl
  dsimp only
  rw [HP.out]
  simp [Tbl.act,hJ,hs]
 subst hx
 have HS:=zH hs;clear hs
 clear hJ
 go_upto_region 14 with (refine wpList_store_whole rfl 96 _ _ rfl w2.heap.size (tcells P) rfl rfl (BlockAt.new w2 96 (tcells Tbl.zero)) (by simp [tcells_len]) (by kernel_rfl) (tcells_ones P) ?_;intro w3 h1' h2' h3';have H3:=zH ((H2.out.allocB 96 (tcells Tbl.zero)).grown h2' h1');have Q3:=zH ((Q2.out.alloc (.cells (tcells Tbl.zero).toArray 96)).trans (Quiet.grown h2'));have x1:=H3.out.right.right.right.bl.cells;have HS4:=zH H3.out.bl;clear h1' h2' h3')
 obtain ⟨c0,c1,c2,c3⟩:=HS4.out.job hq6
 rw [HJ.out] at c0 c1 c2 c3
 dsimp only at c0 c1 c2 c3
 go_upto_region 15 with fail
 have h4:=(H3.out.boxB (ty:=92) (cs:=[zI zi s0,zI zi k0,zI zi r0,zI zi u0]) rfl)
 have q4:=(Q3.out.alloc (.cells ([zI zi s0,zI zi k0,zI zi r0,zI zi u0]:List Value).toArray 92))
 obtain ⟨w4,hw4⟩:∃ w4,w3.alloc (.cells ([zI zi s0,zI zi k0,zI zi r0,zI zi u0]:List Value).toArray 92)=w4:=⟨_,rfl⟩
 obtain ⟨bj,hbj⟩:∃ bj,w3.heap.size=bj:=⟨_,rfl⟩
 obtain ⟨b4,hb4⟩:∃ b4,w2.heap.size=b4:=⟨_,rfl⟩
 rw [hw4,hbj] at h4
 rw [hb4] at h4
 rw [hw4] at q4
 have hw4':w3.alloc (.cells #[zI zi s0,zI zi k0,zI zi r0,zI zi u0] 92)=w4:=hw4
 rw [hw4',hbj,hb4]
 clear c0 c1 c2 c3 HS4 x1 hw4 hw4' hbj hb4 H3 Q3 H2 Q2
 have x1:=h4.right.right.right.right.bl.cells
 have xj:=h4.bl.cells
 have HS4:=zH h4.two.bl
 have f4:=HS4.out.frees
 have l4:=HS4.out.lt
 have lj:=h4.bl.lt
 obtain ⟨c0,c1,c2,c3⟩:=HS4.out.job hq6
 rw [HJ.out] at c0 c1 c2 c3
 dsimp only at c0 c1 c2 c3
 have H4:=zH h4;have Q4:=zH q4;clear h4 q4
 go_upto_region 19 with fail
 have hg:Holds ((((w4.setCell ⟨b4,q*4,none⟩ (zI zi 1)).setCell ⟨b4,q*4+1,none⟩ (zI zi 0)).setCell ⟨b4,q*4+2,none⟩ (zI zi 0)).setCell ⟨b4,q*4+3,none⟩ (zI zi 0)) _:=Holds.setJob H4.out.two hq6 ⟨1,0,0,0⟩
 have qg:=((((Q4.out.setCell ⟨b4,q*4,none⟩ (zI zi 1)).setCell ⟨b4,q*4+1,none⟩ (zI zi 0)).setCell ⟨b4,q*4+2,none⟩ (zI zi 0)).setCell ⟨b4,q*4+3,none⟩ (zI zi 0))
 obtain ⟨PT,hPT⟩:∃ PT,P.set q ⟨1,0,0,0⟩=PT:=⟨_,rfl⟩
 obtain ⟨we,hwe⟩:∃ we,((((w4.setCell ⟨b4,q*4,none⟩ (zI zi 1)).setCell ⟨b4,q*4+1,none⟩ (zI zi 0)).setCell ⟨b4,q*4+2,none⟩ (zI zi 0)).setCell ⟨b4,q*4+3,none⟩ (zI zi 0))=we:=⟨_,rfl⟩
 rw [hwe,hPT] at hg
 rw [hwe] at qg ⊢
 have HG:=zH hg;have QG:=zH qg;have HPT:=zH hPT
 clear hg qg hPT hwe x1 xj f4 l4 lj HS4 c0 c1 c2 c3
 go_wp2_with (first|(refine wpList_load_whole rfl 96 _ rfl b4 rfl (tcells PT) HG.out.tb Tryz.underlying96 rfl (by kernel_rfl) ?_)|(refine wpList_store_whole rfl 96 _ _ rfl (w.heap.size+1+1) (tcells PT) rfl rfl HG.out.four.bl (by simp [tcells_len]) (by kernel_rfl) (tcells_ones PT) ?_;intro w' h1' h2' h3';have HE:=zH (HG.out.four.grown h2' h1').four;have QE:=zH (Quiet.grown h2');have fe:=HE.out.bl.frees;have ce:=HE.out.bl.cells;have le:=HE.out.bl.lt;clear h1' h2' h3'))
 have hf:=((HE.out.setB 0 (zI zi 0)).setB 1 (zI zi 0)).setB 2 (zI zi 0)
 have hl1:=run_load_part (P:=Tryz.prog) (off:=0) (ty:=88) (vs:=[zI zi 0,zI zi 0,zI zi 0]) hf.bl rfl Tryz.underlying88 rfl (by kernel_rfl)
 have hl2:=run_load_part (P:=Tryz.prog) (off:=0) (ty:=96) (vs:=tcells PT) hf.two.bl (by simp) Tryz.underlying96 rfl (by kernel_rfl)
 exact bodyPost_ret (results_cell2 rfl rfl rfl hl2 hl1) rfl ⟨by rw [←HPT.out],hf.right.right.right.right.right.right.toBelow' ((((QG.out.trans QE.out).setCell _ _).setCell _ _).setCell _ _)⟩
end Go.Proofs.YtfihmpkkpgmdhaaGreatDoor
