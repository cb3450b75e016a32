/-
  What the proof of DeskDoes leans on: definitions, laws, contracts of functions. No condition besides those that each theorem names.
-/
import Derived.Test.YtfihmpkkpgmdhaaGreatDoorZD21
import Derived.Test.YtfihmpkkpgmdhaaGreatDoorZD13
import Derived.Test.YtfihmpkkpgmdhaaGreatDoorZD18
import Derived.Test.YtfihmpkkpgmdhaaGreatDoorZD17
import Derived.Test.YtfihmpkkpgmdhaaGreatDoorZD20
import Derived.Test.YtfihmpkkpgmdhaaGreatDoorZD11
set_option maxRecDepth 100000
set_option maxHeartbeats 16000000
set_option linter.unusedVariables false
set_option linter.unusedSimpArgs false
set_option linter.unnecessarySimpa false
section
namespace Go.Proofs.YtfihmpkkpgmdhaaGreatDoor
open Go.Value renaming int → zI
open Go.IntKind renaming i64 → zi
open Go.RowKit
section
variable {P:Program}
theorem exec_built {o:Oper} {a:Act} {w:World} (t:TypeId) (parts:Array (Nat×Operand)) (ho:o.op=.build t parts) (vs:List Value)
  (hb:P.built t (parts.map fun (i,x)=>(i,a.eval x)).toList=some vs.toArray):(execOp a.eval o).run P w=.ok (.value (.agg vs.toArray)) w:=by
 unfold execOp
 simp only [ho,Sem.run_bind,run_build w t _ _ hb,Result.andThen_ok]
 rfl
end
theorem Tryz.infoREv:(Tryz.prog.info? 105).map (fun i=>(i.zero,i.size,i.bytes))=some (some (.agg #[zI zi 0,zI zi 0,zI zi 0,zI zi 0,zI zi 0,zI zi 0,zI zi 0,zI zi 0,zI zi 0,zI zi 0,zI zi 0,zI zi 0,zI zi 0,zI zi 0]),14,112):=by kernel_rfl
def revs (v:Value) (l:List Ev):HP:=rw_ 105 14 v l.length (evvs l)
theorem Holds.nilRE {w:World} {A:HP} (h:Holds w A):Holds w (revs (.slice none 0 0) []*A):=h.nilRow _ _
theorem rev_fit {w:World} {v:Value} {R:HP} (acc:List Ev) (e:Ev) (h:Holds w (rw_ 105 14 v (acc.length+1) (evvs acc++evcells e)*R)):Holds w (revs v (acc++[e])*R):=
 h.eq (by unfold revs;rw [evvs_append,List.length_append];simp [evvs])
end Go.Proofs.YtfihmpkkpgmdhaaGreatDoor
end
namespace Go.Proofs.YtfihmpkkpgmdhaaGreatDoor
open Go.RowKit
open List renaming setIfInBounds_toArray → zA, set_cons_zero → zB, set_cons_succ → zC
open Go.Act renaming put → zP
open Go.Lib renaming hid → zH
open Go.Value renaming int → zI
open Go.IntKind renaming i64 → zi

theorem bdid_renew (t:Tbl) (nw tr wk tm:Int) (q:Nat) (w:World) (hok:t.Ok) (ho:chk ⟨3,nw,(q:Int),tr,wk,tm⟩=0) (hq6:q<6) (h1:((t.pass nw).jobs q).st=2) (h2:((t.pass nw).jobs q).wk=wk) (h3:((t.pass nw).jobs q).tr=tr):Calls Tryz.prog 93 #[.agg (tcells t).toArray,.agg #[zI zi 3,zI zi nw,zI zi (q:Int),zI zi tr,zI zi wk,zI zi tm]] w (DidPost w (t.did ⟨3,nw,(q:Int),tr,wk,tm⟩)):=by
 have HO:=zH ho;clear ho
 have hok':=pass_ok hok (chk_more HO.out).1.2
 have HOK:=zH hok';clear hok hok'
 have htm0:=(chk_zero HO.out).2.2.2.1
 have htm1:=(chk_zero HO.out).2.2.2.2
 dsimp only at htm0 htm1
 obtain ⟨X,hX⟩:∃ X,t.did ⟨3,nw,(q:Int),tr,wk,tm⟩=X:=⟨_,rfl⟩
 rw [hX]
 have HX:=zH hX;clear hX
 have h0:=((((Holds.old (w:=w)).boxB (ty:=96) (cs:=tcells t) rfl).boxB (ty:=84) (cs:=[zI zi 3,zI zi nw,zI zi (q:Int),zI zi tr,zI zi wk,zI zi tm]) (g:=w.heap.size+1) (by simp)).boxB (ty:=96) (cs:=tcells Tbl.zero) (g:=w.heap.size+1+1) (by simp)).boxB (ty:=88) (cs:=[zI zi 0,zI zi 0,zI zi 0]) (g:=w.heap.size+1+1+1) (by simp)
 have H0:=zH h0;clear h0
 have q0:=((((Quiet.refl w).alloc (.cells (tcells t).toArray 96)).alloc (.cells ([zI zi 3,zI zi nw,zI zi (q:Int),zI zi tr,zI zi wk,zI zi tm]:List Value).toArray 84)).alloc (.cells (tcells Tbl.zero).toArray 96)).alloc (.cells ([zI zi 0,zI zi 0,zI zi 0]:List Value).toArray 88)
 have Q0:=zH q0;clear q0
 go_enter Tryz.func93,Tryz.ntmps93
 go_wp2_with fail
 refine (ofault_any 3 nw (q:Int) tr wk tm _).mono ?_
 rw [HO.out]
 rintro e w1 ⟨rfl,hb1⟩
 have H1:=zH (H0.out.below hb1);have Q1:=zH (Q0.out.trans (Quiet.below hb1));clear hb1 H0 Q0
 have x1:=H1.out.right.right.bl.cells
 have HS0:=zH H1.out.right.right.right.bl
 go_wp2_with (refine wpList_load_whole rfl 96 _ rfl w.heap.size rfl (tcells t) HS0.out Tryz.underlying96 rfl (by kernel_rfl) ?_)
 refine (later_any t nw _).mono ?_
 rintro e w2 ⟨rfl,hb2⟩
 obtain ⟨P,hP⟩:∃ P,t.pass nw=P:=⟨_,rfl⟩
 rw [hP]
 have HP:=zH hP;clear hP
 have H2:=zH (H1.out.below hb2);have Q2:=zH (Q1.out.trans (Quiet.below hb2));clear hb2 x1 HS0 H1 Q1
 rw [HP.out] at HOK
 have hn0:=HOK.out.now.1
 have hn1:=HOK.out.now.2
 obtain ⟨⟨s0,k0,r0,u0⟩,hJ⟩:∃ J,P.jobs q=J:=⟨_,rfl⟩
 have HJ:=zH hJ
 rw [HP.out,hJ] at h1 h2 h3
 dsimp only at h1 h2 h3
 have hs0:(s0==0)=false:=by rw [h1];rfl
 have hs2:(s0 != 2)=false:=by rw [h1];rfl
 have hs3:(k0 != wk)=false:=by rw [h2];simp
 have hs4:(r0 != tr)=false:=by rw [h3];simp
 have hx:X=(P.set q { P.jobs q with un:=P.now+tm },⟨0,0,0⟩):=by
  rw [←HX.out]
  refine did_of HO.out ?_ rfl
  dsimp only
  rw [HP.out]
  rw [act_held _ _ _ _ _ _ _ (by simpa [hJ] using h1) (by simpa [hJ] using h2) (by simpa [hJ] using h3) (by simp)];simp
 subst hx
 have HS1:=zH h1;have HS2:=zH h2;have HS3:=zH h3;clear h1 h2 h3
 clear hJ
 go_upto_region 14 with (refine wpList_store_whole rfl 96 _ _ rfl w2.heap.size (tcells P) rfl rfl (BlockAt.new w2 96 (tcells Tbl.zero)) (by simp [tcells_len]) (by kernel_rfl) (tcells_ones P) ?_;intro w3 h1' h2' h3';have H3:=zH ((H2.out.allocB 96 (tcells Tbl.zero)).grown h2' h1');have Q3:=zH ((Q2.out.alloc (.cells (tcells Tbl.zero).toArray 96)).trans (Quiet.grown h2'));have x1:=H3.out.right.right.right.bl.cells;have HS4:=zH H3.out.bl;clear h1' h2' h3')
 obtain ⟨c0,c1,c2,c3⟩:=HS4.out.job hq6
 rw [HJ.out] at c0 c1 c2 c3
 dsimp only at c0 c1 c2 c3
 go_upto_region 15 with fail
 have h4:=(H3.out.boxB (ty:=92) (cs:=[zI zi s0,zI zi k0,zI zi r0,zI zi u0]) rfl)
 have q4:=(Q3.out.alloc (.cells ([zI zi s0,zI zi k0,zI zi r0,zI zi u0]:List Value).toArray 92))
 obtain ⟨w4,hw4⟩:∃ w4,w3.alloc (.cells ([zI zi s0,zI zi k0,zI zi r0,zI zi u0]:List Value).toArray 92)=w4:=⟨_,rfl⟩
 obtain ⟨bj,hbj⟩:∃ bj,w3.heap.size=bj:=⟨_,rfl⟩
 obtain ⟨b4,hb4⟩:∃ b4,w2.heap.size=b4:=⟨_,rfl⟩
 rw [hw4,hbj] at h4
 rw [hb4] at h4
 rw [hw4] at q4
 have hw4':w3.alloc (.cells #[zI zi s0,zI zi k0,zI zi r0,zI zi u0] 92)=w4:=hw4
 rw [hw4',hbj,hb4]
 clear c0 c1 c2 c3 HS4 x1 hw4 hw4' hbj hb4 H3 Q3 H2 Q2
 have x1:=h4.right.right.right.right.bl.cells
 have xj:=h4.bl.cells
 have HS4:=zH h4.two.bl
 have f4:=HS4.out.frees
 have l4:=HS4.out.lt
 have lj:=h4.bl.lt
 obtain ⟨c0,c1,c2,c3⟩:=HS4.out.job hq6
 rw [HJ.out] at c0 c1 c2 c3
 dsimp only at c0 c1 c2 c3
 have H4:=zH h4;have Q4:=zH q4;clear h4 q4
 have c24:=HS4.out.cell 24 _ rfl
 go_upto_region 31 with fail
 have hg:Holds (w4.setCell ⟨b4,q*4+3,none⟩ (zI zi (P.now+tm))) _:=Holds.setUnN H4.out.two hq6 (P.now+tm)
 have qg:=(Q4.out.setCell ⟨b4,q*4+3,none⟩ (zI zi (P.now+tm)))
 obtain ⟨PT,hPT⟩:∃ PT,P.set q { P.jobs q with un:=P.now+tm }=PT:=⟨_,rfl⟩
 obtain ⟨we,hwe⟩:∃ we,(w4.setCell ⟨b4,q*4+3,none⟩ (zI zi (P.now+tm)))=we:=⟨_,rfl⟩
 rw [hwe,hPT] at hg
 rw [hwe] at qg ⊢
 have HG:=zH hg;have QG:=zH qg;have HPT:=zH hPT
 clear c24 hg qg hPT hwe x1 xj f4 l4 lj HS4 c0 c1 c2 c3
 go_wp2_with (first|(refine wpList_load_whole rfl 96 _ rfl b4 rfl (tcells PT) HG.out.tb Tryz.underlying96 rfl (by kernel_rfl) ?_)|(refine wpList_store_whole rfl 96 _ _ rfl (w.heap.size+1+1) (tcells PT) rfl rfl HG.out.four.bl (by simp [tcells_len]) (by kernel_rfl) (tcells_ones PT) ?_;intro w' h1' h2' h3';have HE:=zH (HG.out.four.grown h2' h1').four;have QE:=zH (Quiet.grown h2');have fe:=HE.out.bl.frees;have ce:=HE.out.bl.cells;have le:=HE.out.bl.lt;clear h1' h2' h3'))
 have hf:=((HE.out.setB 0 (zI zi 0)).setB 1 (zI zi 0)).setB 2 (zI zi 0)
 have hl1:=run_load_part (P:=Tryz.prog) (off:=0) (ty:=88) (vs:=[zI zi 0,zI zi 0,zI zi 0]) hf.bl rfl Tryz.underlying88 rfl (by kernel_rfl)
 have hl2:=run_load_part (P:=Tryz.prog) (off:=0) (ty:=96) (vs:=tcells PT) hf.two.bl (by simp) Tryz.underlying96 rfl (by kernel_rfl)
 exact bodyPost_ret (results_cell2 rfl rfl rfl hl2 hl1) rfl ⟨by rw [←HPT.out],hf.right.right.right.right.right.right.toBelow' ((((QG.out.trans QE.out).setCell _ _).setCell _ _).setCell _ _)⟩
theorem bdid_any (t:Tbl) (kd nw jb tr wk tm:Int) (w:World) (hok:t.Ok):Calls Tryz.prog 93 #[.agg (tcells t).toArray,.agg #[zI zi kd,zI zi nw,zI zi jb,zI zi tr,zI zi wk,zI zi tm]] w (DidPost w (t.did ⟨kd,nw,jb,tr,wk,tm⟩)):=by
 by_cases ho:chk ⟨kd,nw,jb,tr,wk,tm⟩=0
 ·obtain ⟨hj,hk,_⟩:=chk_zero ho
  dsimp only at hj hk
  obtain ⟨q,rfl⟩:=Int.eq_ofNat_of_zero_le hj.1
  have hq:q<6:=by omega
  by_cases h2:kd=2
  ·subst h2;exact bdid_take t nw q tr wk tm w hok ho
  ·by_cases hs:((t.pass nw).jobs q).st=0
   ·by_cases h1:kd=1
    ·subst h1;exact bdid_add0 t nw tr wk tm q w hok ho hq hs
    ·exact bdid_abs t kd nw tr wk tm q w hok ho hq (by omega) hs
   ·by_cases h1:kd=1
    ·subst h1;exact bdid_add1 t nw tr wk tm q w hok ho hq hs
    ·have hk':kd=3∨kd=4∨kd=5:=by omega
     by_cases hh:((t.pass nw).jobs q).st=2∧((t.pass nw).jobs q).wk=wk∧((t.pass nw).jobs q).tr=tr
     ·obtain ⟨a,b,c⟩:=hh
      rcases hk' with rfl|rfl|rfl
      ·exact bdid_renew t nw tr wk tm q w hok ho hq a b c
      ·exact bdid_done t nw tr wk tm q w hok ho hq a b c
      ·exact bdid_give t nw tr wk tm q w hok ho hq a b c
     ·refine bdid_else t kd nw tr wk tm q w hok ho hq hk' hs ?_
      by_cases a:((t.pass nw).jobs q).st=2
      ·by_cases b:((t.pass nw).jobs q).wk=wk
       ·exact .inr (.inr fun c=>hh ⟨a,b,c⟩)
       ·exact .inr (.inl b)
      ·exact .inl a
 ·exact bdid_no t kd nw jb tr wk tm w ho
theorem bdo_sl (b:Nat) (t:Tbl) (c n j r k m:Int) (w:World) {R:HP} (h:Holds w (tb b 96 t*R)) (hok:t.Ok) :
  Calls Tryz.prog 65 #[.pointer (some ⟨b,0,none⟩),.agg #[zI zi c,zI zi n,zI zi j,zI zi r,zI zi k,zI zi m]] w
   (Post w R (.agg #[zI zi (t.did ⟨c,n,j,r,k,m⟩).2.code,zI zi (t.did ⟨c,n,j,r,k,m⟩).2.job,zI zi (t.did ⟨c,n,j,r,k,m⟩).2.tr]) (tb b 96 (t.did ⟨c,n,j,r,k,m⟩).1)):=by
 obtain ⟨⟨T',⟨a1,a2,a3⟩⟩,hX⟩:∃ X,t.did ⟨c,n,j,r,k,m⟩=X:=⟨_,rfl⟩
 rw [hX]
 have HX:=zH hX;clear hX
 have hdid:=fun W=>bdid_any t c n j r k m W hok
 rw [HX.out] at hdid
 have HD:=zH hdid;clear hdid hok
 obtain ⟨w1,hw1,H1,Q1⟩:∃ w1,(w.alloc (.cells #[zI zi c,zI zi n,zI zi j,zI zi r,zI zi k,zI zi m] 84)).alloc (.cells #[zI zi 0,zI zi 0,zI zi 0] 88)=w1∧Hid (Holds w1 (bl (w.heap.size+1) 88 [zI zi 0,zI zi 0,zI zi 0]*(bl w.heap.size 84 [zI zi c,zI zi n,zI zi j,zI zi r,zI zi k,zI zi m]*(tb b 96 t*R))))∧Hid (Quiet w w1):=
  ⟨_,rfl,zH ((h.boxB (ty:=84) (cs:=[zI zi c,zI zi n,zI zi j,zI zi r,zI zi k,zI zi m]) rfl).boxB (ty:=88) (cs:=[zI zi 0,zI zi 0,zI zi 0]) (g:=w.heap.size+1) (by simp)),zH (((Quiet.refl w).alloc _).alloc _)⟩
 clear h
 obtain ⟨g0,hg0⟩:∃ g0,w.heap.size=g0:=⟨_,rfl⟩
 rw [hg0] at H1
 go_enter Tryz.func65,Tryz.ntmps65
 go_wp2_with fail
 clear hw1 hg0
 refine wp_region_lexH (fun W=>BlockAt W b 96 (tcells t)∧BlockAt W g0 84 [zI zi c,zI zi n,zI zi j,zI zi r,zI zi k,zI zi m]) [4,10,11] [8,9] (fz2 8 96 (tcells Tbl.zero) 9 88 [zI zi 0,zI zi 0,zI zi 0]) _ (by kernel_rfl) (by kernel_rfl) (by kernel_rfl) fz2_fl fz2_no (fz2_ok rfl ⟨rfl,fun a w=>by kernel_rfl⟩ rfl ⟨rfl,fun a w=>by kernel_rfl⟩) (fun W o h=>⟨h.1.alloc o,h.2.alloc o⟩) ⟨H1.out.drew.three.bl,H1.out.drew.two.bl⟩ H1.out.drew ?_
 repeat (first|(refine LexHL.still (v:=?_) (by rfl) (by rfl) ?_ ?_;rotate_left;(focus (intro W hW;(try dsimp only at hW);go_simp;(try (with_reducible rfl));done));(try simp only [zP,zA,zB,zC])))
 refine LexHL.load 96 (.tmp 9) rfl b 0 rfl (tcells t) (fun W h=>h.1) (by simp) Tryz.underlying96 rfl (by kernel_rfl) rfl rfl ?_
 try simp only [zP,zA,zB,zC]
 refine LexHL.load 84 (.tmp 3) rfl g0 0 rfl [zI zi c,zI zi n,zI zi j,zI zi r,zI zi k,zI zi m] (fun W h=>h.2) (by simp) Tryz.underlying84 rfl (by kernel_rfl) rfl rfl ?_
 try simp only [zP,zA,zB,zC]
 refine LexHL.call (f:=93) (args:=#[.agg (tcells t).toArray,.agg #[zI zi c,zI zi n,zI zi j,zI zi r,zI zi k,zI zi m]]) rfl rfl (by decide) (fun W _=>by go_simp) ?_
 intro W R1 hS hq hA
 refine (HD.out W).mono ?_
 rintro e w2 ⟨rfl,hb2⟩
 have hA2:=hA.below hb2
 refine ⟨_,rfl,⟨hS.1.below hb2 hS.1.lt,hS.2.below hb2 hS.2.lt⟩,hq.trans (Quiet.below hb2),_,hA2,?_⟩
 clear hS hq hA hb2 hA2
 dsimp only
 repeat (first|(refine LexHL.still (v:=?_) (by rfl) (by rfl) ?_ ?_;rotate_left;(focus (intro W hW;(try dsimp only at hW);go_simp;(try (with_reducible rfl));done));(try simp only [zP,zA,zB,zC])))
 refine LexHL.made rfl ?_
 intro q1 hlv
 clear hlv
 try simp only [zP,zA,zB,zC]
 refine LexHL.made rfl ?_
 intro q2 hlv
 clear hlv
 try simp only [zP,zA,zB,zC]
 refine LexHL.storeB (q:=q1) (t:=96) (cs:=tcells Tbl.zero) (B:=bl q2 88 [zI zi 0,zI zi 0,zI zi 0]*(bl (g0+1) 88 [zI zi 0,zI zi 0,zI zi 0]*(bl g0 84 [zI zi c,zI zi n,zI zi j,zI zi r,zI zi k,zI zi m]*(tb b 96 t*R)))) 96 _ _ rfl (tcells T') rfl rfl (by simp [tcells_len]) (by kernel_rfl) (tcells_ones T') rfl rfl (by decide) (by ac_rfl) (fun W R2 h=>⟨h.left.right.right.right.right.bl,h.left.right.right.right.bl⟩) ?_
 try simp only [zP,zA,zB,zC]
 refine LexHL.storeB (q:=q2) (t:=88) (cs:=[zI zi 0,zI zi 0,zI zi 0]) (B:=bl q1 96 (tcells T')*(bl (g0+1) 88 [zI zi 0,zI zi 0,zI zi 0]*(bl g0 84 [zI zi c,zI zi n,zI zi j,zI zi r,zI zi k,zI zi m]*(tb b 96 t*R)))) 88 _ _ rfl [zI zi a1,zI zi a2,zI zi a3] rfl rfl rfl (by kernel_rfl) (by simp [Ones,Value.oneCell']) rfl rfl (by decide) (by ac_rfl) (fun W R2 h=>⟨h.left.right.right.right.right.bl,h.left.right.right.right.bl⟩) ?_
 try simp only [zP,zA,zB,zC]
 refine LexHL.done ?_
 intro W hS hA hq
 have HA:=zH hA;have HQ:=zH (Q1.out.drew.trans hq)
 clear hS hA hq
 have HB:=zH ((HA.out.eq (by ac_rfl:_=(bl q1 96 (tcells T')*bl g0 84 [zI zi c,zI zi n,zI zi j,zI zi r,zI zi k,zI zi m])*(tb b 96 t*(bl q2 88 [zI zi a1,zI zi a2,zI zi a3]*(bl (g0+1) 88 [zI zi 0,zI zi 0,zI zi 0]*R))))).right)
 go_wp2_with (first|(refine wpList_load_whole rfl 96 _ rfl q1 rfl (tcells T') HA.out.two.bl Tryz.underlying96 rfl (by kernel_rfl) ?_)|(refine wpList_store_whole rfl 96 _ _ rfl b (tcells T') rfl rfl HB.out.tb (by simp [tcells_len]) (by kernel_rfl) (tcells_ones T') ?_;intro w' h1' h2' h3';have HE:=zH (HB.out.grown h2' h1');have QE:=zH (HQ.out.trans (Quiet.grown h2'));have ca:=HE.out.two.bl.cells;have fe:=HE.out.three.bl.frees;have ce:=HE.out.three.bl.cells;have le:=HE.out.three.bl.lt;clear h1' h2' h3'))
 have hf:=(((HE.out.three.setB 0 (zI zi a1)).setB 1 (zI zi a2)).setB 2 (zI zi a3))
 have hl:=run_load_part (P:=Tryz.prog) (off:=0) (ty:=88) (vs:=[zI zi a1,zI zi a2,zI zi a3]) hf.bl rfl Tryz.underlying88 rfl (by kernel_rfl)
 exact bodyPost_ret (results_cell1 rfl rfl hl) rfl ⟨rfl,((QE.out.setCell _ _).setCell _ _).setCell _ _,(hf.right.eq (by ac_rfl:_=bl q2 88 [zI zi a1,zI zi a2,zI zi a3]*(bl b 96 (tcells T')*R))).right⟩
theorem bjob_sl (b:Nat) (t:Tbl) (n:Int) (w:World) {R:HP} (h:Holds w (tb b 96 t*R)):Calls Tryz.prog 36 #[.pointer (some ⟨b,0,none⟩),zI zi n] w fun e w'=>e=.returned (t.job n).val∧Below w.heap.size w w':=
 bjob_any b 96 [] t n w (by simpa using h.tb)
end Go.Proofs.YtfihmpkkpgmdhaaGreatDoor
