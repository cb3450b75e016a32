/-
  What the proof of DeskDoes leans on: definitions, laws, contracts of functions. No condition besides those that each theorem names.
-/
import Derived.Test.YtfihmpkkpgmdhaaGreatDoorZD15
import Derived.Test.YtfihmpkkpgmdhaaGreatDoorZD01
import Derived.Deep.Cut
set_option maxRecDepth 100000
set_option maxHeartbeats 16000000
set_option linter.unusedVariables false
set_option linter.unusedSimpArgs false
set_option linter.unnecessarySimpa false
namespace Go.Proofs.YtfihmpkkpgmdhaaGreatDoor
open Go.RowKit
open List renaming setIfInBounds_toArray → zA, set_cons_zero → zB, set_cons_succ → zC
open Go.Act renaming put → zP
open Go.Lib renaming hid → zH
open Go.Value renaming int → zI
open Go.IntKind renaming i64 → zi
theorem did_chk {t:Tbl} {o:Ord} (h:(t.did o).2.code=0):chk o=0:=by
 rcases did_shape t o with ⟨e,_⟩|⟨h,_⟩
 ·exact absurd h e
 ·exact h
theorem norder_sl (bn bt bd:Nat) (d:Dsk) (n:Nod) (c nw j r k m kp:Int) (w:World) {R:HP} (h:Holds w (nblk bn bt bd n*(tab bt n.t*(dsk bd d*R)))) (hd:d.Ok) (he:1≤n.ep) (hok:n.t.Ok) :
  Calls Tryz.prog 123 #[.pointer (some ⟨bn,0,none⟩),.agg #[zI zi c,zI zi nw,zI zi j,zI zi r,zI zi k,zI zi m],zI zi kp] w (OrdPost w bn bt bd n.t R (n.order d ⟨c,nw,j,r,k,m⟩ (keepN kp))):=by
 obtain ⟨t,ep,dn⟩:=n
 cases dn with
 | true=>
  have:=norder_down bn bt bd d t ep c nw j r k m kp w h
  unfold Nod.order
  rw [if_pos rfl]
  exact this
 | false=>
  unfold Nod.order
  rw [if_neg (by simp)]
  dsimp only at he hok ⊢
  by_cases hne:ep=d.ep
  ·rw [if_neg (by simpa using hne)]
   by_cases hc:(t.did ⟨c,nw,j,r,k,m⟩).2.code=0
   ·rw [if_neg (by simpa using hc)]
    have h1:=hd.ep
    exact norder_wrote bn bt bd d t ep c nw j r k m kp w h hd hok hne hc (by unfold chkR;rw [if_neg (by dsimp only;omega)];exact did_chk hc)
   ·rw [if_pos hc]
    exact norder_refused bn bt bd d t ep c nw j r k m kp w h hok hne hc
  ·rw [if_pos hne]
   exact norder_fenced bn bt bd d t ep c nw j r k m kp w h hne
theorem nOrder_sl (bn bd:Nat) (d:Dsk) (n:Nod) (c nw j r k m:Int) (w:World) {R:HP} (h:Holds w (nod bn bd n*(dsk bd d*R))) (hd:d.Ok) (he:1≤n.ep) (hok:n.t.Ok) :
  Calls Tryz.prog 103 #[.pointer (some ⟨bn,0,none⟩),.agg #[zI zi c,zI zi nw,zI zi j,zI zi r,zI zi k,zI zi m]] w
   (Post w (dsk bd (n.order d ⟨c,nw,j,r,k,m⟩ 9).1*R) (n.order d ⟨c,nw,j,r,k,m⟩ 9).2.2.val (nod bn bd (n.order d ⟨c,nw,j,r,k,m⟩ 9).2.1)):=by
 obtain ⟨bt,h⟩:=nod_open h
 have hcall:=fun W (R':HP) (h:Holds W (nblk bn bt bd n*(tab bt n.t*(dsk bd d*R'))))=>norder_sl bn bt bd d n c nw j r k m 9 W h hd he hok
 rw [show keepN 9=9 from rfl] at hcall
 obtain ⟨⟨d',n',⟨a1,a2,a3⟩⟩,hX⟩:∃ X,n.order d ⟨c,nw,j,r,k,m⟩ 9=X:=⟨_,rfl⟩
 rw [hX] at hcall ⊢
 have HC:=zH hcall
 clear hX hcall hd he hok
 obtain ⟨w0,hw0,H0,Q0⟩:∃ w0,(w.alloc (.cells #[zI zi c,zI zi nw,zI zi j,zI zi r,zI zi k,zI zi m] 84)).alloc (.cells #[zI zi 0,zI zi 0,zI zi 0] 88)=w0∧Hid (Holds w0 (bl (w.heap.size+1) 88 [zI zi 0,zI zi 0,zI zi 0]*(bl w.heap.size 84 [zI zi c,zI zi nw,zI zi j,zI zi r,zI zi k,zI zi m]*(nblk bn bt bd n*(tab bt n.t*(dsk bd d*R))))))∧Hid (Quiet w w0):=
  ⟨_,rfl,zH ((h.boxB (ty:=84) (cs:=[zI zi c,zI zi nw,zI zi j,zI zi r,zI zi k,zI zi m]) rfl).boxB (ty:=88) (cs:=[zI zi 0,zI zi 0,zI zi 0]) (g:=w.heap.size+1) (by simp)),zH (((Quiet.refl w).alloc _).alloc _)⟩
 clear h
 obtain ⟨g0,hg0⟩:∃ g0,w.heap.size=g0:=⟨_,rfl⟩
 rw [hg0] at H0
 obtain ⟨ga,hga⟩:∃ ga,g0+1=ga:=⟨_,rfl⟩
 rw [hga] at H0
 have co:=H0.out.two.bl.cells
 go_enter Tryz.func103,Tryz.ntmps103
 go_wp2_with fail
 clear hw0 hg0 hga
 refine (HC.out _ (bl ga 88 [zI zi 0,zI zi 0,zI zi 0]*R) (H0.out.eq (by ac_rfl:_=bl g0 84 [zI zi c,zI zi nw,zI zi j,zI zi r,zI zi k,zI zi m]*(nblk bn bt bd n*(tab bt n.t*(dsk bd d*(bl ga 88 [zI zi 0,zI zi 0,zI zi 0]*R)))))).right).mono ?_
 rintro e w1 ⟨rfl,q1,hc⟩
 obtain ⟨bt',h1⟩:∃ bt':Nat,Holds w1 (bl ga 88 [zI zi 0,zI zi 0,zI zi 0]*(nblk bn bt' bd n'*(tab bt' n'.t*(dsk bd d'*R)))):=by
  rcases hc with ⟨_,ht,hc⟩|⟨_,bt',hc⟩
  ·dsimp only at ht hc
   rw [←ht] at hc
   exact ⟨bt,hc.eq (by ac_rfl)⟩
  ·dsimp only at hc
   exact ⟨bt',(hc.eq (by ac_rfl:_=tab bt n.t*(bl ga 88 [zI zi 0,zI zi 0,zI zi 0]*(nblk bn bt' bd n'*(tab bt' n'.t*(dsk bd d'*R)))))).right⟩
 have ca:=h1.bl.cells
 have fa:=h1.bl.frees
 have la:=h1.bl.lt
 have H1:=zH h1;have Q1:=zH (Q0.out.trans q1)
 clear h1 q1 hc co H0 Q0
 simp only [Ans.val]
 go_wp2
 have hf:=((H1.out.setB 0 (zI zi a1)).setB 1 (zI zi a2)).setB 2 (zI zi a3)
 have hl:=run_load_part (P:=Tryz.prog) (off:=0) (ty:=88) (vs:=[zI zi a1,zI zi a2,zI zi a3]) hf.bl rfl Tryz.underlying88 rfl (by kernel_rfl)
 exact bodyPost_ret (results_cell1 rfl rfl hl) rfl ⟨rfl,((Q1.out.setCell _ _).setCell _ _).setCell _ _,nod_close hf.right⟩
theorem nTear_sl (bn bd:Nat) (d:Dsk) (n:Nod) (c nw j r k m kp:Int) (w:World) {R:HP} (h:Holds w (nod bn bd n*(dsk bd d*R))) (hd:d.Ok) (he:1≤n.ep) (hok:n.t.Ok) :
  Calls Tryz.prog 104 #[.pointer (some ⟨bn,0,none⟩),.agg #[zI zi c,zI zi nw,zI zi j,zI zi r,zI zi k,zI zi m],zI zi kp] w
   (Post w (dsk bd (n.tear d ⟨c,nw,j,r,k,m⟩ (keepN kp)).1*R) (zI zi (n.tear d ⟨c,nw,j,r,k,m⟩ (keepN kp)).2.2) (nod bn bd (n.tear d ⟨c,nw,j,r,k,m⟩ (keepN kp)).2.1)):=by
 obtain ⟨bt,h⟩:=nod_open h
 have hcall:=fun W (R':HP) (h:Holds W (nblk bn bt bd n*(tab bt n.t*(dsk bd d*R'))))=>norder_sl bn bt bd d n c nw j r k m kp W h hd he hok
 unfold Nod.tear
 obtain ⟨⟨d',n',⟨a1,a2,a3⟩⟩,hX⟩:∃ X,n.order d ⟨c,nw,j,r,k,m⟩ (keepN kp)=X:=⟨_,rfl⟩
 rw [hX] at hcall ⊢
 dsimp only at hcall ⊢
 obtain ⟨Y,hY⟩:∃ Y,(if a1=0 then (d',(⟨n.t,n'.ep,true⟩:Nod),a1) else (d',n',a1))=Y:=⟨_,rfl⟩
 rw [hY]
 have HY:=zH hY
 have HC:=zH hcall
 clear hX hcall hd he hok hY
 have cn:=(show BlockAt w bn 119 (ncells bt bd n) from h.bl).cells
 have ln:=(show BlockAt w bn 119 (ncells bt bd n) from h.bl).lt
 simp only [ncells] at cn
 have h0:=h.boxB (ty:=84) (cs:=[zI zi c,zI zi nw,zI zi j,zI zi r,zI zi k,zI zi m]) rfl
 have H0:=zH h0
 clear h h0
 go_enter Tryz.func104,Tryz.ntmps104
 go_wp2_with fail
 refine (HC.out _ R H0.out.right).mono ?_
 rintro e w1 ⟨rfl,q1,hc⟩
 have Q1:=zH (((Quiet.refl w).alloc (.cells #[zI zi c,zI zi nw,zI zi j,zI zi r,zI zi k,zI zi m] 84)).trans q1)
 have HCC:=zH hc
 clear q1 hc cn ln H0
 simp only [Ans.val]
 by_cases hz:a1=0
 ·subst hz
  obtain ⟨bt',h1⟩:∃ bt':Nat,Holds w1 (nblk bn bt' bd n'*(tab bt n.t*(dsk bd d'*R))):=by
   rcases HCC.out with ⟨hc,_⟩|⟨_,bt',hc⟩
   ·exact absurd rfl hc
   ·dsimp only at hc
    exact ⟨bt',(hc.eq (by ac_rfl:_=tab bt' n'.t*(nblk bn bt' bd n'*(tab bt n.t*(dsk bd d'*R))))).right⟩
  have HY2:=zH (show (d',(⟨n.t,n'.ep,true⟩:Nod),(0:Int))=Y by rw [←HY.out,if_pos rfl])
  have cn:=(show BlockAt w1 bn 119 (ncells bt' bd n') from h1.bl).cells
  have fn:=(show BlockAt w1 bn 119 (ncells bt' bd n') from h1.bl).frees
  have ln:=(show BlockAt w1 bn 119 (ncells bt' bd n') from h1.bl).lt
  simp only [ncells] at cn
  have H1:=zH h1
  clear h1 HCC HY
  go_wp2
  rw [←HY2.out]
  go_ret
  exact ⟨rfl,((Q1.out.setCell _ _).setCell _ _).alloc _,nod_close (((H1.out.setB 0 (.pointer (some ⟨bt,0,none⟩))).setB 3 (.bool true)).alloc _)⟩
 ·have hzb:(a1==0)=false:=by simpa using hz
  have h1:Holds w1 (nblk bn bt bd n'*(tab bt n'.t*(dsk bd d'*R))):=by
   rcases HCC.out with ⟨_,ht,hc⟩|⟨hc,_⟩
   ·dsimp only at hc ht
    rw [ht];exact hc
   ·exact absurd hc hz
  have HY2:=zH (show (d',n',a1)=Y by rw [←HY.out,if_neg hz])
  have H1:=zH h1
  clear h1 HCC HY hz
  go_wp2
  rw [←HY2.out]
  go_ret
  exact ⟨rfl,Q1.out.alloc _,nod_close (H1.out.alloc _)⟩
theorem nStop_sl (bn bd:Nat) (n:Nod) (w:World) {R:HP} (h:Holds w (nod bn bd n*R)):Calls Tryz.prog 105 #[.pointer (some ⟨bn,0,none⟩)] w (Post w R (.tuple #[]) (nod bn bd ⟨n.t,n.ep,true⟩)):=by
 obtain ⟨bt,h⟩:=nod_open h
 have cn:=(show BlockAt w bn 119 (ncells bt bd n) from h.bl).cells
 have fn:=(show BlockAt w bn 119 (ncells bt bd n) from h.bl).frees
 simp only [ncells] at cn
 have H:=zH h
 clear h
 go_enter Tryz.func105,Tryz.ntmps105
 go_wp2
 refine bodyPost_ret (v:=.tuple #[]) (by simp [results,Tryz.results105,go_sem]) rfl ⟨rfl,(Quiet.refl w).setCell _ _,nod_close (H.out.setB 3 (.bool true))⟩
theorem nOpen_full (bd:Nat) (d:Dsk) (w:World) {R:HP} (h:Holds w (dsk bd d*R)) (hd:d.Ok) (hc:100≤d.ep) :
  Calls Tryz.prog 102 #[.pointer (some ⟨bd,0,none⟩)] w (Post w R (.tuple #[.pointer none,zI zi 8]) (dsk bd d)):=by
 have e:d.raise=(d,0,8):=by simp [Dsk.raise,hc]
 have HE:=zH e;have H:=zH h;have HD:=zH hd
 clear e h hd hc
 go_enter Tryz.func102,Tryz.ntmps102
 go_wp2_with fail
 refine (depoch_sl bd d _ H.out).mono ?_
 rintro e w1 ⟨rfl,rfl⟩
 go_wp2_with fail
 refine (raise_sl bd d _ H.out HD.out).mono ?_
 rw [HE.out]
 rintro e w1 ⟨rfl,q1,h1⟩
 have H1:=zH h1;have Q1:=zH q1;clear h1 q1
 go_wp2
 go_ret2
 exact ⟨rfl,Q1.out,H1.out⟩
theorem nOpen_sl (bd:Nat) (d:Dsk) (w:World) {R:HP} (h:Holds w (dsk bd d*R)) (hd:d.Ok) (hc:¬ 100≤d.ep) :
  Calls Tryz.prog 102 #[.pointer (some ⟨bd,0,none⟩)] w (PostX w (dsk bd (opened d).1*R) (fun bn:Nat=>.tuple #[.pointer (some ⟨bn,0,none⟩),zI zi 0]) fun bn=>nod bn bd ⟨behind (found d),d.ep+1,false⟩):=by
 obtain ⟨ep,B⟩:=d
 have e:(⟨ep,B⟩:Dsk).raise=(⟨ep+1,B⟩,ep+1,0):=by simp [Dsk.raise];dsimp only at hc;omega
 have hep:=hd.ep
 have hB:=hd.b
 dsimp only at hep hB hc
 have hd1:(⟨ep+1,B⟩:Dsk).Ok:=⟨by dsimp only;omega,hB⟩
 obtain ⟨L,hL⟩:∃ L,allB B=L:=⟨_,rfl⟩
 have hLl:9*L.length≤B.length:=by rw [←hL];exact allB_len B
 have hLR:Rising 0 L:=by rw [←hL];exact allB_rising B
 obtain ⟨F,hF⟩:∃ F,untilE ep L=F:=⟨_,rfl⟩
 obtain ⟨d9,hd9⟩:∃ d9,(opened ⟨ep,B⟩).1=d9:=⟨_,rfl⟩
 have hF2:found ⟨ep,B⟩=F:=by unfold found;rw [hL,hF]
 rw [hF2,hd9]
 have hd92:d9=⟨ep+1,B.take (9*F.length)⟩:=by rw [←hd9,opened,if_neg (by dsimp only;exact hc),hF2]
 have HE:=zH e;have H:=zH h;have HD:=zH hd;have HD1:=zH hd1;have HL:=zH hL;have HLL:=zH hLl;have HLR:=zH hLR;have HF:=zH hF;have HD9:=zH hd92;have HB:=zH hB
 clear e h hd hd1 hL hLl hLR hF hd92 hF2 hd9 hB
 dsimp only
 go_enter Tryz.func102,Tryz.ntmps102
 go_wp2_with fail
 refine (depoch_sl bd ⟨ep,B⟩ _ H.out).mono ?_
 rintro e w1 ⟨rfl,rfl⟩
 dsimp only
 go_wp2_with fail
 refine (raise_sl bd ⟨ep,B⟩ _ H.out HD.out).mono ?_
 rw [HE.out]
 rintro e w1 ⟨rfl,q1,h1⟩
 have H1:=zH h1;have Q1:=zH q1;clear h1 q1
 go_wp2_with fail
 refine (bytes_sl bd ⟨ep+1,B⟩ _ H1.out HD1.out).mono ?_
 rintro e w2 ⟨v,rfl,q2,h2⟩
 have H2:=zH (show Holds w2 (ownb v B*(dsk bd ⟨ep+1,B⟩*R)) from h2);have Q2:=zH (Q1.out.trans q2);clear h2 q2 H1 Q1
 go_wp2_with fail
 refine (all_sl v B _ H2.out.ownb.bytes (by have:=HB.out;omega) H2.out).mono ?_
 rintro e w3 ⟨v3,rfl,q3,h3⟩
 rw [HL.out] at h3
 have hrow:=h3.row
 obtain ⟨a,cc,rfl,c1,c2⟩:=hrow.shape
 have H3:=zH (show Holds w3 (recs (.slice a L.length cc) L*(dsk bd ⟨ep+1,B⟩*R)) from (h3.eq (by ac_rfl:_=ownb v B*(recs (.slice a L.length cc) L*(dsk bd ⟨ep+1,B⟩*R)))).right);have Q3:=zH (Q2.out.trans q3)
 have HROW:=zH hrow
 clear h3 q3 H2 Q2 hrow
 have hl1:L.length≤200:=by have:=HLL.out;have:=HB.out;omega
 have C1:=zH c1;clear c1
 go_wp2_with fail
 go_loopw [7] (fun s wr=>∃ k:Nat,k≤L.length∧s=.slice a k cc∧wr=w3∧Hid (untilE ep L=untilE ep (L.take k))) (fun s _=>match s with | .slice _ k _=>k|_=>0)
 case atStart=>exact ⟨L.length,Nat.le_refl _,rfl,rfl,zH (by rw [List.take_length])⟩
 case round=>
  obtain ⟨k,hk,rfl,rfl,hu⟩:=hrel
  have hkc:k≤cc:=by have:=C1.out;omega
  have hcase:(∃ q,k=q+1∧∃ r,L[q]? = some r∧ep<r.ep)∨(k=0∨0<k∧∃ r,L[k-1]? = some r∧r.ep≤ep):=by
   cases k with
   | zero=>exact .inr (.inl rfl)
   | succ q=>
    obtain ⟨r,hr⟩:∃ r,L[q]? = some r:=⟨_,List.getElem?_eq_getElem (by omega)⟩
    by_cases h:ep<r.ep
    ·exact .inl ⟨q,rfl,r,hr,h⟩
    ·exact .inr (.inr ⟨by omega,r,hr,by omega⟩)
  have goes:∀ q r,k=q+1→L[q]? = some r→∃ g off,a=some ⟨g,off,none⟩∧wr.cell? ⟨g,off+q*7,none⟩=some (zI zi r.ep):=fun q r hq hr=>by
   obtain ⟨g,off,cx,e,_,_,hc0⟩:=HROW.out.get (by omega)
   simp only [Value.slice.injEq] at e
   refine ⟨g,off,e.1,?_⟩
   have:=rvs_cell hc0 hr 0 _ (by omega) rfl
   rwa [Nat.add_zero] at this
  rcases hcase with ⟨q,rfl,r,hr,her⟩|hend
  ·obtain ⟨g,off,rfl,hcell⟩:=goes q r rfl hr
   have hu2:=zH (untilE_step HLR.out hu.out (by omega) (by simpa using hr) her)
   clear goes hr hu
   go_wp2_with fail
   go_roundw
   case rel=>exact ⟨q,by omega,by go_num,by first|rfl|trivial,by simpa using hu2⟩
   case measure=>simp
  ·have hfk:=zH ((untilE_end HLR.out hu.out hend).symm.trans HF.out)
   have HK:=zH hk
   have hk2:k≤200:=by omega
   have hlen:=zH (show F.length=k by rw [←hfk.out,List.length_take];have:=HK.out;omega)
   have hcut:(⟨ep+1,B⟩:Dsk).cut (ep+1) ((k:Int)*9)=(d9,0):=by
    have h1:=HLL.out;have h2:=HK.out
    rw [Dsk.cut,if_neg (by dsimp only;omega),if_neg (by dsimp only;omega),HD9.out,hlen.out]
    congr 3
    omega
   have HCUT:=zH hcut
   have hd9ok:d9.Ok:=by have:=Dsk.cut_ok HD1.out (ep+1) ((k:Int)*9);rw [hcut] at this;exact this
   have HOK9:=zH hd9ok
   have HKL:=zH (show k≤L.length from hk)
   clear hcut hd9ok hu
   rcases hend with rfl|⟨h0,r,hr,hle⟩
   ·clear goes hk
    have hcut:=HCUT.out
    simp only [Int.ofNat_zero,Int.zero_mul] at hcut
    have HCUT:=zH hcut
    clear hcut
    go_wp2_with fail
    refine (cut_sl bd ⟨ep+1,B⟩ (ep+1) (0) _ H3.out.two HD1.out).mono ?_
    rw [HCUT.out]
    rintro e w4 ⟨rfl,q4,h4⟩
    have H4:=zH h4;have Q4:=zH (Q3.out.trans q4);clear h4 q4
    go_wp2_with fail
    refine (new_sl _ H4.out).mono ?_
    rintro e w5 ⟨bt,rfl,q5,h5⟩
    obtain ⟨bn,hbn⟩:∃ bn,w5.heap.size=bn:=⟨_,rfl⟩
    have h6:=h5.boxB (ty:=119) (cs:=ncells bt bd ⟨Tbl.zero,ep+1,false⟩) hbn
    have q6:=(Q4.out.trans q5).alloc (.cells (ncells bt bd ⟨Tbl.zero,ep+1,false⟩).toArray 119)
    have H6:=zH (show Holds (w5.alloc (.cells (ncells bt bd ⟨Tbl.zero,ep+1,false⟩).toArray 119)) (nblk bn bt bd ⟨Tbl.zero,ep+1,false⟩*(tab bt Tbl.zero*(dsk bd d9*(recs (.slice a L.length cc) L*R)))) from h6)
    have Q6:=zH q6
    clear h5 q5 h6 q6 H4 Q4
    go_wp2_with fail
    clear hbn
    go_loopw [58] (fun i wr=>∃ j:Nat,j≤0∧i=zI zi j∧Holds wr (nblk bn bt bd ⟨Tbl.zero,ep+1,false⟩*(tab bt (runL Tbl.zero (L.take j))*(dsk bd d9*(recs (.slice a L.length cc) L*R))))∧Quiet w wr) (fun i _=>0-(intOf i).toNat)
    case atStart=>exact ⟨0,by omega,rfl,H6.out,Q6.out⟩
    case round=>
     obtain ⟨j,hj,rfl,hh,hq⟩:=hrel
     have HJ:=zH hj
     by_cases hlt:j<0
     ·omega
     ·obtain rfl:j=0:=by omega
      go_wp2
      go_ret2
      exact ⟨bn,rfl,hq,nod_close ((hh.eq (by ac_rfl:_=recs (.slice a L.length cc) L*(nblk bn bt bd ⟨Tbl.zero,ep+1,false⟩*(tab bt (runL Tbl.zero (L.take (0)))*(dsk bd d9*R))))).right.eq (by rw [show L.take (0)=F from hfk.out];rfl))⟩
   ·obtain ⟨q,rfl⟩:∃ q,k=q+1:=⟨k-1,by omega⟩
    simp only [Nat.add_sub_cancel] at hr
    obtain ⟨g,off,rfl,hcell⟩:=goes q r rfl hr
    clear goes hk h0 hr
    have hcut:=HCUT.out
    rw [show ((q+1:Nat):Int)=(q:Int)+1 from by omega] at hcut
    have HCUT:=zH hcut
    clear hcut
    go_wp2_with fail
    clear hcell hle
    refine (cut_sl bd ⟨ep+1,B⟩ (ep+1) (((q:Int)+1)*9) _ H3.out.two HD1.out).mono ?_
    rw [HCUT.out]
    rintro e w4 ⟨rfl,q4,h4⟩
    have H4:=zH h4;have Q4:=zH (Q3.out.trans q4);clear h4 q4
    go_wp2_with fail
    refine (new_sl _ H4.out).mono ?_
    rintro e w5 ⟨bt,rfl,q5,h5⟩
    obtain ⟨bn,hbn⟩:∃ bn,w5.heap.size=bn:=⟨_,rfl⟩
    have h6:=h5.boxB (ty:=119) (cs:=ncells bt bd ⟨Tbl.zero,ep+1,false⟩) hbn
    have q6:=(Q4.out.trans q5).alloc (.cells (ncells bt bd ⟨Tbl.zero,ep+1,false⟩).toArray 119)
    have H6:=zH (show Holds (w5.alloc (.cells (ncells bt bd ⟨Tbl.zero,ep+1,false⟩).toArray 119)) (nblk bn bt bd ⟨Tbl.zero,ep+1,false⟩*(tab bt Tbl.zero*(dsk bd d9*(recs (.slice (some ⟨g,off,none⟩) L.length cc) L*R)))) from h6)
    have Q6:=zH q6
    clear h5 q5 h6 q6 H4 Q4
    go_wp2_with fail
    clear hbn
    go_loopw [58] (fun i wr=>∃ j:Nat,j≤q+1∧i=zI zi j∧Holds wr (nblk bn bt bd ⟨Tbl.zero,ep+1,false⟩*(tab bt (runL Tbl.zero (L.take j))*(dsk bd d9*(recs (.slice (some ⟨g,off,none⟩) L.length cc) L*R))))∧Quiet w wr) (fun i _=>q+1-(intOf i).toNat)
    case atStart=>exact ⟨0,by omega,rfl,H6.out,Q6.out⟩
    case round=>
     obtain ⟨j,hj,rfl,hh,hq⟩:=hrel
     have HJ:=zH hj
     by_cases hlt:j<q+1
     ·obtain ⟨r,hr⟩:∃ r,L[j]? = some r:=⟨_,List.getElem?_eq_getElem (by have:=HKL.out;omega)⟩
      obtain ⟨gr,offr,cx,e,_,_,hc0⟩:=(hh.four.row).get (by have:=HKL.out;omega)
      simp only [Value.slice.injEq] at e
      obtain ⟨ea,_,_⟩:=e
      simp only [Option.some.injEq,Addr.mk.injEq,and_true] at ea
      obtain ⟨rfl,rfl⟩:=ea
      have hrun:=zH (runL_step hr Tbl.zero)
      have hin:=zH (runL_in Tbl.zero_in (L.take j))
      obtain ⟨ep2,⟨kd,nw,jb,tr,wk,tm⟩⟩:=r
      have y0:=rvs_cell hc0 hr 0 _ (by omega) rfl
      have y1:=rvs_cell hc0 hr 1 _ (by omega) rfl
      have y2:=rvs_cell hc0 hr 2 _ (by omega) rfl
      have y3:=rvs_cell hc0 hr 3 _ (by omega) rfl
      have y4:=rvs_cell hc0 hr 4 _ (by omega) rfl
      have y5:=rvs_cell hc0 hr 5 _ (by omega) rfl
      have y6:=rvs_cell hc0 hr 6 _ (by omega) rfl
      rw [Nat.add_zero] at y0
      dsimp only at y0 y1 y2 y3 y4 y5 y6
      obtain ⟨wo,rfl⟩:∃ wo:World,wo=wr:=⟨_,rfl⟩
      have hx:=hh.boxB (ty:=103) (cs:=[zI zi ep2,zI zi kd,zI zi nw,zI zi jb,zI zi tr,zI zi wk,zI zi tm]) rfl
      have HX:=zH hx;have QX:=zH (hq.alloc (.cells ([zI zi ep2,zI zi kd,zI zi nw,zI zi jb,zI zi tr,zI zi wk,zI zi tm]:List Value).toArray 103))
      clear hh hq hr hc0 hx
      dsimp only at hrun
      obtain ⟨T,hT⟩:∃ T,runL Tbl.zero (L.take j)=T:=⟨_,rfl⟩
      rw [hT] at HX hin hrun
      clear hT
      go_wp2_with fail
      clear y0 y1 y2 y3 y4 y5 y6
      refine wp_region_lex (fun W=>(∀ o,W.cell? ⟨bn,o,none⟩=[.pointer (some ⟨bt,0,none⟩),.pointer (some ⟨bd,0,none⟩),zI zi (ep+1),.bool false][o]?)∧∀ o,W.cell? ⟨wo.heap.size,o,none⟩=[zI zi ep2,zI zi kd,zI zi nw,zI zi jb,zI zi tr,zI zi wk,zI zi tm][o]?) [6] (by kernel_rfl) (by kernel_rfl) ⟨(show BlockAt _ bn 119 (ncells bt bd ⟨Tbl.zero,ep+1,false⟩) from HX.out.right.drew.bl).cells,HX.out.drew.bl.cells⟩ ?_
      repeat (first|(refine LexL.none (by rfl) ?_;(try simp only [zP,zA,zB,zC]))|(refine LexL.still (v:=?_) (by rfl) ?_ ?_;rotate_left;(focus (intro W hW;(try dsimp only at hW);go_simp;(try (with_reducible rfl));done));(try simp only [zP,zA,zB,zC])))
      refine LexL.call (f:=79) (args:=#[.pointer (some ⟨bt,0,none⟩),.agg #[zI zi kd,zI zi nw,zI zi jb,zI zi tr,zI zi wk,zI zi tm]]) (w1:=(wo.alloc (.cells #[zI zi ep2,zI zi kd,zI zi nw,zI zi jb,zI zi tr,zI zi wk,zI zi tm] 103)).drew) (by rfl) (by decide) (by go_simp) ?_
      refine (do_sl bt T kd nw jb tr wk tm _ (HX.out.drew.three) hin.out.ok).mono ?_
      rintro e w7 ⟨rfl,q7,h7⟩
      have h8:=h7.eq (by ac_rfl:_=bl wo.heap.size 103 [zI zi ep2,zI zi kd,zI zi nw,zI zi jb,zI zi tr,zI zi wk,zI zi tm]*(nblk bn bt bd ⟨Tbl.zero,ep+1,false⟩*(tab bt (T.did ⟨kd,nw,jb,tr,wk,tm⟩).1*(dsk bd d9*(recs (.slice (some ⟨g,off,none⟩) L.length cc) L*R)))))
      have H8:=zH h8.right;have Q8:=zH (QX.out.drew.trans q7)
      refine ⟨_,rfl,⟨(show BlockAt _ bn 119 (ncells bt bd ⟨Tbl.zero,ep+1,false⟩) from h8.right.bl).cells,h8.bl.cells⟩,?_⟩
      clear h7 h8 q7
      try simp only [zP,zA,zB,zC]
      repeat (first|(refine LexL.none (by rfl) ?_;(try simp only [zP,zA,zB,zC]))|(refine LexL.still (v:=?_) (by rfl) ?_ ?_;rotate_left;(focus (intro W hW;(try dsimp only at hW);go_simp;(try (with_reducible rfl));done));(try simp only [zP,zA,zB,zC])))
      refine LexL.done ?_
      go_wp2_with fail
      go_roundw
      case rel=>exact ⟨j+1,by omega,by go_num,by rw [hrun.out];exact H8.out,Q8.out⟩
      case measure=>simp [intOf];omega
     ·obtain rfl:j=q+1:=by omega
      go_wp2
      go_ret2
      exact ⟨bn,rfl,hq,nod_close ((hh.eq (by ac_rfl:_=recs (.slice (some ⟨g,off,none⟩) L.length cc) L*(nblk bn bt bd ⟨Tbl.zero,ep+1,false⟩*(tab bt (runL Tbl.zero (L.take (q+1)))*(dsk bd d9*R))))).right.eq (by rw [show L.take (q+1)=F from hfk.out];rfl))⟩
def gact (d:Dsk) (n:Nod) (kd kp:Int) (o:Ord):Dsk×Nod×Ans:=
 if kd=2 then n.order d o 9 else if kd=3 then ((n.tear d o (keepN kp)).1,(n.tear d o (keepN kp)).2.1,⟨(n.tear d o (keepN kp)).2.2,0,0⟩) else (d,⟨n.t,n.ep,true⟩,⟨0,0,0⟩)
def scells (kd x kp:Int) (o:Ord):List Value:=[zI zi kd,zI zi x,zI zi kp,zI zi o.kind,zI zi o.now,zI zi o.job,zI zi o.tr,zI zi o.wk,zI zi o.tm]
theorem gnode_sl (bg bn bd:Nat) (d:Dsk) (n:Nod) (kd x kp c nw j r k m:Int) (w:World) {R:HP} (h:Holds w (nod bn bd n*(dsk bd d*R))) (hd:d.Ok) (he:1≤n.ep) (hok:n.t.Ok) :
  Calls Tryz.prog 74 #[.pointer (some ⟨bg,0,none⟩),.pointer (some ⟨bn,0,none⟩),.agg #[zI zi kd,zI zi x,zI zi kp,zI zi c,zI zi nw,zI zi j,zI zi r,zI zi k,zI zi m]] w
   (Post w (dsk bd (gact d n kd kp ⟨c,nw,j,r,k,m⟩).1*R) (gact d n kd kp ⟨c,nw,j,r,k,m⟩).2.2.val (nod bn bd (gact d n kd kp ⟨c,nw,j,r,k,m⟩).2.1)):=by
 have hord:=fun W (R':HP) (h:Holds W (nod bn bd n*(dsk bd d*R')))=>nOrder_sl bn bd d n c nw j r k m W h hd he hok
 have htear:=fun W (R':HP) (h:Holds W (nod bn bd n*(dsk bd d*R')))=>nTear_sl bn bd d n c nw j r k m kp W h hd he hok
 obtain ⟨w0,hw0,H0,Q0⟩:∃ w0,(w.alloc (.cells #[zI zi kd,zI zi x,zI zi kp,zI zi c,zI zi nw,zI zi j,zI zi r,zI zi k,zI zi m] 86)).alloc (.cells #[zI zi 0,zI zi 0,zI zi 0] 88)=w0∧Hid (Holds w0 (bl (w.heap.size+1) 88 [zI zi 0,zI zi 0,zI zi 0]*(bl w.heap.size 86 [zI zi kd,zI zi x,zI zi kp,zI zi c,zI zi nw,zI zi j,zI zi r,zI zi k,zI zi m]*(nod bn bd n*(dsk bd d*R)))))∧Hid (Quiet w w0):=
  ⟨_,rfl,zH ((h.boxB (ty:=86) (cs:=[zI zi kd,zI zi x,zI zi kp,zI zi c,zI zi nw,zI zi j,zI zi r,zI zi k,zI zi m]) rfl).boxB (ty:=88) (cs:=[zI zi 0,zI zi 0,zI zi 0]) (g:=w.heap.size+1) (by simp)),zH (((Quiet.refl w).alloc _).alloc _)⟩
 clear h hd he hok
 obtain ⟨g0,hg0⟩:∃ g0,w.heap.size=g0:=⟨_,rfl⟩
 rw [hg0] at H0
 obtain ⟨ga,hga⟩:∃ ga,g0+1=ga:=⟨_,rfl⟩
 rw [hga] at H0
 have co:=H0.out.two.bl.cells
 unfold gact
 by_cases h2:kd=2
 ·subst h2
  rw [if_pos rfl]
  obtain ⟨⟨d',n',⟨a1,a2,a3⟩⟩,hX⟩:∃ X,n.order d ⟨c,nw,j,r,k,m⟩ 9=X:=⟨_,rfl⟩
  rw [hX] at hord ⊢
  have HO:=zH hord
  clear hord htear hX
  go_enter Tryz.func74,Tryz.ntmps74
  go_wp2_with fail
  clear hw0 hg0 hga
  refine (HO.out _ (bl ga 88 [zI zi 0,zI zi 0,zI zi 0]*R) (H0.out.eq (by ac_rfl:_=bl g0 86 [zI zi 2,zI zi x,zI zi kp,zI zi c,zI zi nw,zI zi j,zI zi r,zI zi k,zI zi m]*(nod bn bd n*(dsk bd d*(bl ga 88 [zI zi 0,zI zi 0,zI zi 0]*R))))).right).mono ?_
  rintro e w1 ⟨rfl,q1,h1⟩
  have h2:=h1.eq (by ac_rfl:_=bl ga 88 [zI zi 0,zI zi 0,zI zi 0]*(nod bn bd n'*(dsk bd d'*R)))
  have ca:=h2.bl.cells
  have fa:=h2.bl.frees
  have la:=h2.bl.lt
  have H2:=zH h2;have Q2:=zH (Q0.out.trans q1)
  clear h1 h2 q1 co H0 Q0
  simp only [Ans.val]
  go_wp2
  have hf:=((H2.out.setB 0 (zI zi a1)).setB 1 (zI zi a2)).setB 2 (zI zi a3)
  have hl:=run_load_part (P:=Tryz.prog) (off:=0) (ty:=88) (vs:=[zI zi a1,zI zi a2,zI zi a3]) hf.bl rfl Tryz.underlying88 rfl (by kernel_rfl)
  exact bodyPost_ret (results_cell1 rfl rfl hl) rfl ⟨rfl,((Q2.out.setCell _ _).setCell _ _).setCell _ _,hf.right⟩
 ·rw [if_neg h2]
  have hk2:(kd==2)=false:=by simpa using h2
  clear h2
  by_cases h3:kd=3
  ·subst h3
   rw [if_pos rfl]
   obtain ⟨⟨d',n',a1⟩,hX⟩:∃ X,n.tear d ⟨c,nw,j,r,k,m⟩ (keepN kp)=X:=⟨_,rfl⟩
   rw [hX] at htear ⊢
   have HO:=zH htear
   clear hord htear hX
   go_enter Tryz.func74,Tryz.ntmps74
   go_wp2_with fail
   clear hw0 hg0 hga
   refine (HO.out _ (bl ga 88 [zI zi 0,zI zi 0,zI zi 0]*R) (H0.out.eq (by ac_rfl:_=bl g0 86 [zI zi 3,zI zi x,zI zi kp,zI zi c,zI zi nw,zI zi j,zI zi r,zI zi k,zI zi m]*(nod bn bd n*(dsk bd d*(bl ga 88 [zI zi 0,zI zi 0,zI zi 0]*R))))).right).mono ?_
   rintro e w1 ⟨rfl,q1,h1⟩
   have h2:=h1.eq (by ac_rfl:_=bl ga 88 [zI zi 0,zI zi 0,zI zi 0]*(nod bn bd n'*(dsk bd d'*R)))
   have ca:=h2.bl.cells
   have fa:=h2.bl.frees
   have la:=h2.bl.lt
   have H2:=zH h2;have Q2:=zH (Q0.out.trans q1)
   clear h1 h2 q1 co H0 Q0
   simp only [Ans.val]
   go_wp2
   have hf:=((H2.out.setB 0 (zI zi a1)).setB 1 (zI zi 0)).setB 2 (zI zi 0)
   have hl:=run_load_part (P:=Tryz.prog) (off:=0) (ty:=88) (vs:=[zI zi a1,zI zi 0,zI zi 0]) hf.bl rfl Tryz.underlying88 rfl (by kernel_rfl)
   exact bodyPost_ret (results_cell1 rfl rfl hl) rfl ⟨rfl,((Q2.out.setCell _ _).setCell _ _).setCell _ _,hf.right⟩
  ·rw [if_neg h3]
   have hk3:(kd==3)=false:=by simpa using h3
   clear h3 hord htear
   go_enter Tryz.func74,Tryz.ntmps74
   go_wp2_with fail
   clear hw0 hg0 hga
   refine (nStop_sl bn bd n _ (H0.out.three)).mono ?_
   rintro e w1 ⟨rfl,q1,h1⟩
   have h2:=h1.two
   have ca:=h2.bl.cells
   have fa:=h2.bl.frees
   have la:=h2.bl.lt
   have H2:=zH h2;have Q2:=zH (Q0.out.trans q1)
   clear h1 h2 q1 co H0 Q0
   simp only [Ans.val]
   go_wp2
   have hf:=((H2.out.setB 0 (zI zi 0)).setB 1 (zI zi 0)).setB 2 (zI zi 0)
   have hl:=run_load_part (P:=Tryz.prog) (off:=0) (ty:=88) (vs:=[zI zi 0,zI zi 0,zI zi 0]) hf.bl rfl Tryz.underlying88 rfl (by kernel_rfl)
   exact bodyPost_ret (results_cell1 rfl rfl hl) rfl ⟨rfl,((Q2.out.setCell _ _).setCell _ _).setCell _ _,hf.right.two.right⟩
def onod (v:Value) (bd:Nat):Option Nod→HP
 | none=>HP.wi (v=.pointer none) HP.emp
 | some n=>HP.ex fun bn:Nat=>HP.wi (v=.pointer (some ⟨bn,0,none⟩)) (nod bn bd n)
theorem wi_open {p:Prop} {A R:HP} {w:World} (h:Holds w (HP.wi p A*R)):p∧Holds w (A*R):=by
 obtain ⟨F,F1,F2,hd,hF,⟨hp,ha⟩,hb⟩:=h
 exact ⟨hp,F,F1,F2,hd,hF,ha,hb⟩
theorem wi_close {p:Prop} {A R:HP} {w:World} (hp:p) (h:Holds w (A*R)):Holds w (HP.wi p A*R):=by
 obtain ⟨F,F1,F2,hd,hF,ha,hb⟩:=h
 exact ⟨F,F1,F2,hd,hF,⟨hp,ha⟩,hb⟩
theorem emp_mul {A:HP} {w:World} (h:Holds w A):Holds w (HP.emp*A):=by
 obtain ⟨F,hF⟩:=h
 exact ⟨F,fun _=>False,F,fun _ h=>h.elim,fun k=>by simp,fun k h=>h,hF⟩
theorem onod_none {v:Value} {bd:Nat} {R:HP} {w:World} (h:Holds w (onod v bd none*R)):v=.pointer none∧Holds w R:=by
 obtain ⟨hp,h⟩:=wi_open h
 exact ⟨hp,h.right⟩
theorem onod_some {v:Value} {bd:Nat} {n:Nod} {R:HP} {w:World} (h:Holds w (onod v bd (some n)*R)):∃ bn:Nat,v=.pointer (some ⟨bn,0,none⟩)∧Holds w (nod bn bd n*R):=by
 obtain ⟨bn,h⟩:=HP.ex_mul h
 obtain ⟨hp,h⟩:=wi_open h
 exact ⟨bn,hp,h⟩
theorem onod_mk {bn bd:Nat} {n:Nod} {R:HP} {w:World} (h:Holds w (nod bn bd n*R)):Holds w (onod (.pointer (some ⟨bn,0,none⟩)) bd (some n)*R):=
 HP.mul_ex (A:=fun bn':Nat=>HP.wi (Value.pointer (some ⟨bn,0,none⟩)=.pointer (some ⟨bn',0,none⟩)) (nod bn' bd n)) (x:=bn) (wi_close rfl h)
theorem onod_mkNone {bd:Nat} {R:HP} {w:World} (h:Holds w R):Holds w (onod (.pointer none) bd none*R):=wi_close rfl (emp_mul h)
def nodes3 (bd:Nat) (vs:Nat→Value) (f:Nat→Option Nod):HP:=onod (vs 0) bd (f 0)*(onod (vs 1) bd (f 1)*onod (vs 2) bd (f 2))
def nrest (bd:Nat) (vs:Nat→Value) (f:Nat→Option Nod) (i:Nat):HP:=
 if i=0 then onod (vs 1) bd (f 1)*onod (vs 2) bd (f 2) else if i=1 then onod (vs 0) bd (f 0)*onod (vs 2) bd (f 2) else onod (vs 0) bd (f 0)*onod (vs 1) bd (f 1)
theorem nodes3_pick (bd:Nat) (vs:Nat→Value) (f:Nat→Option Nod) {i:Nat} (hi:i<3):nodes3 bd vs f=onod (vs i) bd (f i)*nrest bd vs f i:=by
 unfold nodes3 nrest
 match i,hi with
 | 0,_=>rfl
 | 1,_=>simp only [if_neg (show ¬ (1:Nat)=0 by decide),if_true];ac_rfl
 | 2,_=>simp only [if_neg (show ¬ (2:Nat)=0 by decide),if_neg (show ¬ (2:Nat)=1 by decide)];ac_rfl
def updV (vs:Nat→Value) (i:Nat) (v:Value):Nat→Value:=fun k=>if k=i then v else vs k
theorem nodes3_put (bd:Nat) (vs:Nat→Value) (f:Nat→Option Nod) {i:Nat} (hi:i<3) (v:Value) (n:Nod):nodes3 bd (updV vs i v) (putN f i n)=onod v bd (some n)*nrest bd vs f i:=by
 rw [nodes3_pick _ _ _ hi]
 have e:nrest bd (updV vs i v) (putN f i n) i=nrest bd vs f i:=by
  unfold nrest updV putN
  match i,hi with
  | 0,_|1,_|2,_=>simp
 rw [e]
 simp [updV,putN]
theorem updV_self (vs:Nat→Value) (i:Nat):updV vs i (vs i)=vs:=by
 funext k
 unfold updV
 split
 ·subst_vars;rfl
 ·rfl
def gcells (bd:Nat) (vs:Nat→Value) (now:Int):List Value:=[.pointer (some ⟨bd,0,none⟩),vs 0,vs 1,vs 2,zI zi now]
def gblk (bg bd:Nat) (vs:Nat→Value) (now:Int):HP:=bl bg 65 (gcells bd vs now)
theorem gcells_get (bd:Nat) (vs:Nat→Value) (now:Int) {i:Nat} (hi:i<3):(gcells bd vs now)[1+i]? = some (vs i):=by
 match i,hi with
 | 0,_|1,_|2,_=>rfl
theorem gcells_set (bd:Nat) (vs:Nat→Value) (now:Int) {i:Nat} (hi:i<3) (v:Value):(gcells bd vs now).set (1+i) v=gcells bd (updV vs i v) now:=by
 match i,hi with
 | 0,_|1,_|2,_=>rfl
end Go.Proofs.YtfihmpkkpgmdhaaGreatDoor
