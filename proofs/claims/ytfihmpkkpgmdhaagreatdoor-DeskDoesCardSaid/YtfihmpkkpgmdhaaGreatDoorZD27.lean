/-
  What the proof of DeskDoes leans on: definitions, laws, contracts of functions. No condition besides those that each theorem names.
-/
import Derived.Test.YtfihmpkkpgmdhaaGreatDoorZD26
import Derived.Deep.Cut
import Derived.Test.YtfihmpkkpgmdhaaGreatDoorZD23
import Derived.Test.YtfihmpkkpgmdhaaGreatDoorZD14
import Derived.Test.YtfihmpkkpgmdhaaGreatDoorZD01
set_option maxRecDepth 100000
set_option maxHeartbeats 16000000
set_option linter.unusedVariables false
set_option linter.unusedSimpArgs false
set_option linter.unnecessarySimpa false
namespace Go.Proofs.YtfihmpkkpgmdhaaGreatDoor
open Go.RowKit
open List renaming setIfInBounds_toArray → zA, set_cons_zero → zB, set_cons_succ → zC
open Go.Lib renaming hid → zH
open Go.Value renaming int → zI
open Go.IntKind renaming i64 → zi
theorem gStep_none (bg bd:Nat) (vs:Nat→Value) (g:Gld) (kd x kp c nw j r k m:Int) (w:World) {R:HP} (h:Holds w (gblk bg bd vs g.now*(dsk bd g.d*(nodes3 bd vs g.f*R)))) (hk:kd=2∨kd=3∨kd=4) (hn:g.nod x=none) :
  Calls Tryz.prog 44 #[.pointer (some ⟨bg,0,none⟩),.agg #[zI zi kd,zI zi x,zI zi kp,zI zi c,zI zi nw,zI zi j,zI zi r,zI zi k,zI zi m]] w (GPost w bg R (g.step ⟨kd,x,kp,⟨c,nw,j,r,k,m⟩⟩)):=by
 obtain ⟨w0,hw0,H0,Q0⟩:∃ w0,(w.alloc (.cells #[zI zi kd,zI zi x,zI zi kp,zI zi c,zI zi nw,zI zi j,zI zi r,zI zi k,zI zi m] 86)).alloc (.cells #[zI zi 0,zI zi 0,zI zi 0] 88)=w0∧Hid (Holds w0 (bl (w.heap.size+1) 88 [zI zi 0,zI zi 0,zI zi 0]*(bl w.heap.size 86 [zI zi kd,zI zi x,zI zi kp,zI zi c,zI zi nw,zI zi j,zI zi r,zI zi k,zI zi m]*(gblk bg bd vs g.now*(dsk bd g.d*(nodes3 bd vs g.f*R))))))∧Hid (Quiet w w0):=
  ⟨_,rfl,zH ((h.boxB (ty:=86) (cs:=[zI zi kd,zI zi x,zI zi kp,zI zi c,zI zi nw,zI zi j,zI zi r,zI zi k,zI zi m]) rfl).boxB (ty:=88) (cs:=[zI zi 0,zI zi 0,zI zi 0]) (g:=w.heap.size+1) (by simp)),zH (((Quiet.refl w).alloc _).alloc _)⟩
 clear h
 obtain ⟨g0,hg0⟩:∃ g0,w.heap.size=g0:=⟨_,rfl⟩
 rw [hg0] at H0
 obtain ⟨ga,hga⟩:∃ ga,g0+1=ga:=⟨_,rfl⟩
 rw [hga] at H0
 have co:=H0.out.two.bl.cells
 obtain ⟨d,f,now⟩:=g
 dsimp only at H0
 have he:(⟨d,f,now⟩:Gld).step ⟨kd,x,kp,⟨c,nw,j,r,k,m⟩⟩=(⟨d,f,now⟩,⟨5,0,0⟩):=by
  unfold Gld.step;dsimp only;rw [if_neg (by omega),if_neg (by omega),if_pos hk,hn]
 rw [he];clear he
 have hv:gAt vs x=.pointer none:=by
  unfold gAt
  unfold Gld.nod at hn
  split
  ·rfl
  ·rename_i hx
   rw [if_neg hx] at hn
   have hi:x.toNat<3:=by omega
   have h:=H0.out.right.right.right.right.eq (by rw [nodes3_pick bd vs f hi,show f x.toNat=none from hn];ac_rfl:_=onod (vs x.toNat) bd none*(nrest bd vs f x.toNat*R))
   exact (onod_none h).1
 have HV:=zH hv
 clear hv hn
 have b1:(kd==1)=false:=by simp only [beq_eq_false_iff_ne,ne_eq];omega
 have b5:(kd==5)=false:=by simp only [beq_eq_false_iff_ne,ne_eq];omega
 have ca:=H0.out.bl.cells
 have fa:=H0.out.bl.frees
 have la:=H0.out.bl.lt
 obtain ⟨b2,b3,b4,hb⟩:∃ b2 b3 b4:Bool,((kd==2)=b2∧(kd==3)=b3∧(kd==4)=b4)∧(b2 || b3 || b4)=true:=⟨_,_,_,⟨rfl,rfl,rfl⟩,by rcases hk with rfl|rfl|rfl<;>rfl⟩
 clear hk
 rcases (show (b2=true∨(b2=false∧b3=true)∨(b2=false∧b3=false∧b4=true)) by revert hb;cases b2<;>cases b3<;>cases b4<;>simp) with rfl|⟨rfl,rfl⟩|⟨rfl,rfl,rfl⟩
 all_goals
  obtain ⟨⟨e2,e3,e4⟩,_⟩:=hb
  go_enter Tryz.func44,Tryz.ntmps44
  go_wp2_with fail
  clear hw0 hg0 hga
  refine (gNode_sl bg bd vs now x _ H0.out.three).mono ?_
  rw [HV.out]
  rintro e w1 ⟨rfl,rfl⟩
  go_wp2
  have hf:=((H0.out.setB 0 (zI zi 5)).setB 1 (zI zi 0)).setB 2 (zI zi 0)
  have hl:=run_load_part (P:=Tryz.prog) (off:=0) (ty:=88) (vs:=[zI zi 5,zI zi 0,zI zi 0]) hf.bl rfl Tryz.underlying88 rfl (by kernel_rfl)
  exact bodyPost_ret (results_cell1 rfl rfl hl) rfl ⟨rfl,((Q0.out.setCell _ _).setCell _ _).setCell _ _,gld_close hf.right.right⟩
theorem gStep_node (bg bd:Nat) (vs:Nat→Value) (g:Gld) (n:Nod) (kd x kp c nw j r k m:Int) (w:World) {R:HP} (h:Holds w (gblk bg bd vs g.now*(dsk bd g.d*(nodes3 bd vs g.f*R)))) (hk:kd=2∨kd=3∨kd=4) (hn:g.nod x=some n) (hd:g.d.Ok) (hep:1≤n.ep) (hok:n.t.Ok) :
  Calls Tryz.prog 44 #[.pointer (some ⟨bg,0,none⟩),.agg #[zI zi kd,zI zi x,zI zi kp,zI zi c,zI zi nw,zI zi j,zI zi r,zI zi k,zI zi m]] w (GPost w bg R (g.step ⟨kd,x,kp,⟨c,nw,j,r,k,m⟩⟩)):=by
 obtain ⟨w0,hw0,H0,Q0⟩:∃ w0,(w.alloc (.cells #[zI zi kd,zI zi x,zI zi kp,zI zi c,zI zi nw,zI zi j,zI zi r,zI zi k,zI zi m] 86)).alloc (.cells #[zI zi 0,zI zi 0,zI zi 0] 88)=w0∧Hid (Holds w0 (bl (w.heap.size+1) 88 [zI zi 0,zI zi 0,zI zi 0]*(bl w.heap.size 86 [zI zi kd,zI zi x,zI zi kp,zI zi c,zI zi nw,zI zi j,zI zi r,zI zi k,zI zi m]*(gblk bg bd vs g.now*(dsk bd g.d*(nodes3 bd vs g.f*R))))))∧Hid (Quiet w w0):=
  ⟨_,rfl,zH ((h.boxB (ty:=86) (cs:=[zI zi kd,zI zi x,zI zi kp,zI zi c,zI zi nw,zI zi j,zI zi r,zI zi k,zI zi m]) rfl).boxB (ty:=88) (cs:=[zI zi 0,zI zi 0,zI zi 0]) (g:=w.heap.size+1) (by simp)),zH (((Quiet.refl w).alloc _).alloc _)⟩
 clear h
 obtain ⟨g0,hg0⟩:∃ g0,w.heap.size=g0:=⟨_,rfl⟩
 rw [hg0] at H0
 obtain ⟨ga,hga⟩:∃ ga,g0+1=ga:=⟨_,rfl⟩
 rw [hga] at H0
 have co:=H0.out.two.bl.cells
 obtain ⟨d,f,now⟩:=g
 dsimp only at H0
 obtain ⟨⟨d',n',⟨a1,a2,a3⟩⟩,hX⟩:∃ X,gact d n kd kp ⟨c,now,j,r,k,m⟩=X:=⟨_,rfl⟩
 have he:(⟨d,f,now⟩:Gld).step ⟨kd,x,kp,⟨c,nw,j,r,k,m⟩⟩=(⟨d',putN f x.toNat n',now⟩,⟨a1,a2,a3⟩):=by
  unfold Gld.step;dsimp only;rw [if_neg (by omega),if_neg (by omega),if_pos hk,hn]
  unfold gact at hX
  dsimp only [Ord.at]
  by_cases h2:kd=2
  ·rw [if_pos h2] at hX ⊢;rw [hX]
  ·rw [if_neg h2] at hX ⊢
   by_cases h3:kd=3
   ·rw [if_pos h3] at hX ⊢
    simp only [Prod.mk.injEq] at hX
    obtain ⟨e1,e2,e3⟩:=hX
    rw [e1,e2,e3]
   ·rw [if_neg h3] at hX ⊢
    simp only [Prod.mk.injEq] at hX
    obtain ⟨e1,e2,e3⟩:=hX
    rw [e1,e2,e3]
 rw [he];clear he
 have hnode:=fun W (R':HP) bn (h:Holds W (nod bn bd n*(dsk bd d*R')))=>gnode_sl bg bn bd d n kd x kp c now j r k m W h hd hep hok
 rw [hX] at hnode
 have HN:=zH hnode
 have hxx:¬ (x<0∨3≤x):=by
  intro h;unfold Gld.nod at hn;rw [if_pos h] at hn;cases hn
 obtain ⟨i,rfl⟩:=Int.eq_ofNat_of_zero_le (show 0≤x by omega)
 have hi:i<3:=by omega
 have hfi:f i=some n:=by unfold Gld.nod at hn;rw [if_neg hxx] at hn;exact hn
 have h5:=H0.out.eq (by rw [nodes3_pick bd vs f hi,hfi];ac_rfl:_=onod (vs i) bd (some n)*(bl ga 88 [zI zi 0,zI zi 0,zI zi 0]*(bl g0 86 [zI zi kd,zI zi i,zI zi kp,zI zi c,zI zi nw,zI zi j,zI zi r,zI zi k,zI zi m]*(gblk bg bd vs now*(dsk bd d*(nrest bd vs f i*R))))))
 obtain ⟨bn,hvi,h6⟩:=onod_some h5
 have HV:=zH (show gAt vs i=.pointer (some ⟨bn,0,none⟩) by unfold gAt;rw [if_neg hxx];exact hvi)
 have HVI:=zH hvi
 have H6:=zH h6
 clear hnode hX hn hd hep hok hxx hfi h5 h6 hvi H0
 have b1:(kd==1)=false:=by simp only [beq_eq_false_iff_ne,ne_eq];omega
 have b5:(kd==5)=false:=by simp only [beq_eq_false_iff_ne,ne_eq];omega
 have cg:=(show BlockAt w0 bg 65 (gcells bd vs now) from H6.out.four.bl).cell 4 _ rfl
 have fs:=H6.out.three.bl.frees
 have ls:=H6.out.three.bl.lt
 obtain ⟨b2,b3,b4,hb⟩:∃ b2 b3 b4:Bool,((kd==2)=b2∧(kd==3)=b3∧(kd==4)=b4)∧(b2 || b3 || b4)=true:=⟨_,_,_,⟨rfl,rfl,rfl⟩,by rcases hk with rfl|rfl|rfl<;>rfl⟩
 clear hk
 rcases (show (b2=true∨(b2=false∧b3=true)∨(b2=false∧b3=false∧b4=true)) by revert hb;cases b2<;>cases b3<;>cases b4<;>simp) with rfl|⟨rfl,rfl⟩|⟨rfl,rfl,rfl⟩
 all_goals
  obtain ⟨⟨e2,e3,e4⟩,_⟩:=hb
  go_enter Tryz.func44,Tryz.ntmps44
  go_wp2_with fail
  clear hw0 hg0 hga
  refine (gNode_sl bg bd vs now i _ H6.out.four).mono ?_
  rw [HV.out]
  rintro e w1 ⟨rfl,rfl⟩
  go_upto_region 16 with fail
  obtain ⟨w2,hw2,H7,Q7⟩:∃ w2,w0.setCell ⟨g0,4,none⟩ (zI zi now)=w2∧Hid (Holds w2 (bl g0 86 [zI zi kd,zI zi i,zI zi kp,zI zi c,zI zi now,zI zi j,zI zi r,zI zi k,zI zi m]*(nod bn bd n*(dsk bd d*(bl ga 88 [zI zi 0,zI zi 0,zI zi 0]*(gblk bg bd vs now*(nrest bd vs f i*R)))))))∧Hid (Quiet w w2):=
   ⟨_,rfl,zH ((H6.out.three.setB 4 (zI zi now)).eq (by simp only [zB,zC];ac_rfl)),zH (Q0.out.setCell _ _)⟩
  rw [hw2]
  clear hw2 cg fs ls co H6 Q0
  go_wp2_with (refine wpList_load_whole rfl 86 _ rfl g0 rfl [zI zi kd,zI zi i,zI zi kp,zI zi c,zI zi now,zI zi j,zI zi r,zI zi k,zI zi m] H7.out.bl Tryz.underlying86 rfl (by kernel_rfl) ?_)
  refine (HN.out _ _ bn H7.out.right).mono ?_
  rintro e w3 ⟨rfl,q3,h3⟩
  have h8:=h3.eq (by ac_rfl:_=bl ga 88 [zI zi 0,zI zi 0,zI zi 0]*(nod bn bd n'*(gblk bg bd vs now*(dsk bd d'*(nrest bd vs f i*R)))))
  have ca:=h8.bl.cells
  have fa:=h8.bl.frees
  have la:=h8.bl.lt
  have H8:=zH h8;have Q8:=zH (Q7.out.trans q3)
  clear h3 h8 q3 H7 Q7
  simp only [Ans.val]
  go_wp2
  have hf:=((H8.out.setB 0 (zI zi a1)).setB 1 (zI zi a2)).setB 2 (zI zi a3)
  have hl:=run_load_part (P:=Tryz.prog) (off:=0) (ty:=88) (vs:=[zI zi a1,zI zi a2,zI zi a3]) hf.bl rfl Tryz.underlying88 rfl (by kernel_rfl)
  have hz:=onod_mk hf.right
  rw [←HVI.out] at hz
  exact bodyPost_ret (results_cell1 rfl rfl hl) rfl ⟨rfl,((Q8.out.setCell _ _).setCell _ _).setCell _ _,gld_close (g:=⟨d',putN f i n',now⟩) (vs:=updV vs i (vs i)) (hz.eq (by rw [nodes3_put bd vs f hi,updV_self];ac_rfl))⟩
theorem gStep_sl (bg:Nat) (g:Gld) (kd x kp c nw j r k m:Int) (l:List Rec) (w:World) {R:HP} (h:Holds w (gld bg g*R)) (hg:g.Ok l) :
  Calls Tryz.prog 44 #[.pointer (some ⟨bg,0,none⟩),.agg #[zI zi kd,zI zi x,zI zi kp,zI zi c,zI zi nw,zI zi j,zI zi r,zI zi k,zI zi m]] w (GPost w bg R (g.step ⟨kd,x,kp,⟨c,nw,j,r,k,m⟩⟩)):=by
 obtain ⟨bd,vs,h⟩:=gld_open h
 by_cases h1:kd=1
 ·subst h1;exact gStep_open bg bd vs g x kp c nw j r k m w h hg.fam.ok
 by_cases h5:kd=5
 ·subst h5;exact gStep_tick bg bd vs g x kp c nw j r k m w h hg.now
 by_cases hk:kd=2∨kd=3∨kd=4
 ·cases hn:g.nod x with
  | none=>exact gStep_none bg bd vs g kd x kp c nw j r k m w h hk hn
  | some n=>
   have hs:=hg.fam.sv _ _ (nod_some hn).2.1
   exact gStep_node bg bd vs g n kd x kp c nw j r k m w h hk hn hg.fam.ok hs.1.1 hs.2.1.ok
 ·exact gStep_kind bg bd vs g kd x kp c nw j r k m w h h1 (by omega) (by omega) (by omega) h5
def Gld.Good (g:Gld):Prop := ∃ l,g.Ok l
theorem good_zero:Gld.zero.Good:=⟨[],Gld.zero_ok⟩
theorem gstep_sl (bg:Nat) (g:Gld) (kd x kp c nw j r k m:Int) (w:World) {R:HP} (h:Holds w (gld bg g*R)) (hg:g.Good) :
  Calls Tryz.prog 44 #[.pointer (some ⟨bg,0,none⟩),.agg #[zI zi kd,zI zi x,zI zi kp,zI zi c,zI zi nw,zI zi j,zI zi r,zI zi k,zI zi m]] w (GPost w bg R (g.step ⟨kd,x,kp,⟨c,nw,j,r,k,m⟩⟩)):=by
 obtain ⟨l,hg⟩:=hg
 exact gStep_sl bg g kd x kp c nw j r k m l w h hg
def gz1:Gld:=(Gld.zero.step ⟨1,1,0,⟨0,0,0,0,0,0⟩⟩).1
def gz2:Gld:=(gz1.step ⟨2,1,0,⟨1,7,4,0,0,0⟩⟩).1
def gz3:Gld:=(gz2.step ⟨5,9,0,⟨0,0,0,0,0,0⟩⟩).1
def gz4:Gld:=(gz3.step ⟨1,2,0,⟨0,0,0,0,0,0⟩⟩).1
def gz5:Gld:=(gz4.step ⟨2,2,0,⟨2,0,0,0,1,3⟩⟩).1
def gz6:Gld:=(gz5.step ⟨2,1,0,⟨2,0,0,0,2,3⟩⟩).1
theorem pick_some {w:World} {A B R:HP} {bd:Nat} {vs:Nat→Value} {f:Nat→Option Nod} {i:Nat} {n:Nod} (h:Holds w (A*(B*(nodes3 bd vs f*R)))) (hi:i<3) (hf:f i=some n):∃ bn:Nat,vs i=.pointer (some ⟨bn,0,none⟩)∧Holds w (nod bn bd n*(A*(B*(nrest bd vs f i*R)))):=by
 have h8:=h.eq (by rw [nodes3_pick bd vs f hi,hf];ac_rfl:_=onod (vs i) bd (some n)*(A*(B*(nrest bd vs f i*R))))
 exact onod_some h8
theorem pick_none {w:World} {A B R:HP} {bd:Nat} {vs:Nat→Value} {f:Nat→Option Nod} {i:Nat} (h:Holds w (A*(B*(nodes3 bd vs f*R)))) (hi:i<3) (hf:f i=none):vs i=.pointer none:=by
 have h8:=h.eq (by rw [nodes3_pick bd vs f hi,hf];ac_rfl:_=onod (vs i) bd none*(A*(B*(nrest bd vs f i*R))))
 exact (onod_none h8).1
theorem behind_any (v:Value) (l:List Rec) (w:World) (h:RowAt w v l.length (rvs l)) (hl:l.length≤100000):Calls Tryz.prog 92 #[v] w (PostX w (old w) (fun b:Nat=>.pointer (some ⟨b,0,none⟩)) fun b=>tb b 96 (behind l)):=by
 obtain ⟨a,cc,rfl,c1,c2⟩:=h.shape
 have HV:=zH h;clear h
 have H0:=zH ((Holds.old (w:=w)).boxB (ty:=96) (cs:=tcells Tbl.zero) rfl)
 have Q0:=zH ((Quiet.refl w).alloc (.cells (tcells Tbl.zero).toArray 96))
 go_enter Tryz.func92,Tryz.ntmps92
 go_wp2_with fail
 go_loopw [4] (fun i wr=>∃ k:Nat,k≤l.length∧i=zI zi k∧Holds wr (tb w.heap.size 96 (runL Tbl.zero (l.take k))*old w)∧Quiet w wr) (fun i _=>l.length-(intOf i).toNat)
 case atStart=>exact ⟨0,by omega,rfl,H0.out,Q0.out⟩
 case round=>
  obtain ⟨k,hk,rfl,hh,hq⟩:=hrel
  have HK:=zH hk
  by_cases hlt:k<l.length
  ·obtain ⟨r,hr⟩:∃ r,l[k]? = some r:=⟨_,List.getElem?_eq_getElem hlt⟩
   obtain ⟨g,off,cx,e,_,_,hc0⟩:=(HV.out.old hh).get (by omega)
   simp only [Value.slice.injEq] at e
   obtain ⟨rfl,_,rfl⟩:=e
   have hrun:=zH (runL_step hr Tbl.zero)
   have hin:=zH (runL_in Tbl.zero_in (l.take k))
   obtain ⟨ep2,⟨kd,nw,jb,tr,wk,tm⟩⟩:=r
   have y1:=rvs_cell hc0 hr 1 _ (by omega) rfl
   have y2:=rvs_cell hc0 hr 2 _ (by omega) rfl
   have y3:=rvs_cell hc0 hr 3 _ (by omega) rfl
   have y4:=rvs_cell hc0 hr 4 _ (by omega) rfl
   have y5:=rvs_cell hc0 hr 5 _ (by omega) rfl
   have y6:=rvs_cell hc0 hr 6 _ (by omega) rfl
   dsimp only at y1 y2 y3 y4 y5 y6
   have HH:=zH hh;have HQ:=zH hq
   clear hh hq hr hc0
   dsimp only at hrun
   obtain ⟨T,hT⟩:∃ T,runL Tbl.zero (l.take k)=T:=⟨_,rfl⟩
   rw [hT] at HH hin hrun
   clear hT
   go_wp2_with fail
   clear y1 y2 y3 y4 y5 y6
   refine (bdo_sl w.heap.size T kd nw jb tr wk tm _ HH.out hin.out.ok).mono ?_
   rintro e w2 ⟨rfl,q2,h2⟩
   have H2:=zH h2;have Q2:=zH (HQ.out.trans q2);clear h2 q2
   go_wp2_with fail
   go_roundw
   case rel=>exact ⟨k+1,by omega,by go_num,by rw [hrun.out];exact H2.out,Q2.out⟩
   case measure=>simp [intOf];omega
  ·obtain rfl:k=l.length:=by omega
   go_wp2
   go_ret
   exact ⟨_,rfl,hq,by rw [List.take_length] at hh;exact hh⟩
theorem behind_sl (v:Value) (l:List Rec) (w:World) (h:RowAt w v l.length (rvs l)) (hl:l.length≤100000) {R:HP} (hr:Holds w R):Calls Tryz.prog 92 #[v] w (PostX w R (fun b:Nat=>.pointer (some ⟨b,0,none⟩)) fun b=>tb b 96 (behind l)):=
 (behind_any v l w h hl).mono fun e w' ⟨x,he,hq,hh⟩=>⟨x,he,hq,hh.frame hr⟩
end Go.Proofs.YtfihmpkkpgmdhaaGreatDoor
