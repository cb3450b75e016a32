/-
  What the proof of DeskDoes leans on: definitions, laws, contracts of functions. No condition besides those that each theorem names.
-/
import Derived.Test.YtfihmpkkpgmdhaaGreatDoorZD16
import Derived.StillTailTactics
set_option maxRecDepth 100000
set_option maxHeartbeats 16000000
set_option linter.unusedVariables false
set_option linter.unusedSimpArgs false
set_option linter.unnecessarySimpa false
namespace Go.Proofs.YtfihmpkkpgmdhaaGreatDoor
open Go.RowKit
open List renaming setIfInBounds_toArray → zA, set_cons_zero → zB, set_cons_succ → zC
open Go.Act renaming put → zP
open Go.Lib renaming hid → zH
open Go.Value renaming int → zI
open Go.IntKind renaming i64 → zi
def gld (bg:Nat) (g:Gld):HP:=HP.ex fun x:Nat×(Nat→Value)=>gblk bg x.1 x.2 g.now*(dsk x.1 g.d*nodes3 x.1 x.2 g.f)
theorem gld_open {bg:Nat} {g:Gld} {R:HP} {w:World} (h:Holds w (gld bg g*R)):∃ bd vs,Holds w (gblk bg bd vs g.now*(dsk bd g.d*(nodes3 bd vs g.f*R))):=by
 obtain ⟨⟨bd,vs⟩,h⟩:=HP.ex_mul h
 exact ⟨bd,vs,h.eq (by simp only [HP.assoc])⟩
theorem gld_close {bg bd:Nat} {vs:Nat→Value} {g:Gld} {R:HP} {w:World} (h:Holds w (gblk bg bd vs g.now*(dsk bd g.d*(nodes3 bd vs g.f*R)))):Holds w (gld bg g*R):=
 HP.mul_ex (A:=fun x:Nat×(Nat→Value)=>gblk bg x.1 x.2 g.now*(dsk x.1 g.d*nodes3 x.1 x.2 g.f)) (x:=(bd,vs)) (h.eq (by simp only [HP.assoc]))
theorem gNew_sl (w:World) {R:HP} (h:Holds w R):Calls Tryz.prog 12 #[] w (PostX w R (fun b:Nat=>.pointer (some ⟨b,0,none⟩)) fun b=>gld b Gld.zero):=by
 have H:=zH h;clear h
 go_enter Tryz.func12,Tryz.ntmps12
 go_wp2_with fail
 refine (dnew_sl _ H.out).mono ?_
 rintro e w1 ⟨bd,rfl,q1,h1⟩
 have H1:=zH (show Holds w1 (dsk bd Dsk.zero*R) from h1);have Q1:=zH q1;clear h1 q1
 go_wp2
 go_ret
 refine ⟨_,rfl,Q1.out.alloc _,gld_close (bd:=bd) (vs:=fun _=>.pointer none) (((H1.out.right.eq rfl |> fun _=>H1.out).boxB (ty:=65) (cs:=gcells bd (fun _=>.pointer none) 0) rfl).imp (fun F h=>h) |> fun h=>?_)⟩
 have h2:Holds _ (gblk w1.heap.size bd (fun _=>.pointer none) 0*(dsk bd Dsk.zero*R)):=h
 have h3:=(onod_mkNone (bd:=bd) (onod_mkNone (bd:=bd) (onod_mkNone (bd:=bd) (h2.eq (by ac_rfl:_=R*(gblk w1.heap.size bd (fun _=>.pointer none) 0*dsk bd Dsk.zero))))))
 exact h3.eq (by unfold nodes3;simp only [Gld.zero];ac_rfl)
theorem gNow_sl (bg bd:Nat) (vs:Nat→Value) (now:Int) (w:World) {R:HP} (h:Holds w (gblk bg bd vs now*R)):Calls Tryz.prog 53 #[.pointer (some ⟨bg,0,none⟩)] w fun e w'=>e=.returned (zI zi now)∧w=w':=by
 have c:=(show BlockAt w bg 65 (gcells bd vs now) from h.bl).cells
 simp only [gcells] at c
 clear h
 go_enter Tryz.func53,Tryz.ntmps53
 go_wp2
 go_ret
 exact ⟨rfl,rfl⟩
def gAt (vs:Nat→Value) (n:Int):Value:=if n<0∨3≤n then .pointer none else vs n.toNat
theorem gNode_sl (bg bd:Nat) (vs:Nat→Value) (now n:Int) (w:World) {R:HP} (h:Holds w (gblk bg bd vs now*R)):Calls Tryz.prog 47 #[.pointer (some ⟨bg,0,none⟩),zI zi n] w fun e w'=>e=.returned (gAt vs n)∧w=w':=by
 have hb:BlockAt w bg 65 (gcells bd vs now):=h.bl
 clear h
 by_cases h0:n<0
 ·have e:gAt vs n=.pointer none:=by unfold gAt;rw [if_pos (.inl h0)]
  rw [e];clear e hb
  go_enter Tryz.func47,Tryz.ntmps47
  go_wp2
  go_ret
  exact ⟨rfl,rfl⟩
 ·by_cases h3:3≤n
  ·have e:gAt vs n=.pointer none:=by unfold gAt;rw [if_pos (.inr h3)]
   rw [e];clear e hb
   go_enter Tryz.func47,Tryz.ntmps47
   go_wp2
   go_ret
   exact ⟨rfl,rfl⟩
  ·obtain ⟨k,rfl⟩:=Int.eq_ofNat_of_zero_le (show 0≤n by omega)
   have hk:k<3:=by omega
   have e:gAt vs k=vs k:=by unfold gAt;rw [if_neg (by omega)];rfl
   have ck:=hb.cell _ _ (gcells_get bd vs now hk)
   obtain ⟨u,hu⟩:∃ u,vs k=u:=⟨_,rfl⟩
   rw [hu] at e ck
   rw [e];clear e hb h0 h3 hu
   go_enter Tryz.func47,Tryz.ntmps47
   go_wp2
   go_ret
   exact ⟨rfl,rfl⟩
theorem gopen_bad (bg:Nat) (n:Int) (w:World) (h:n<0∨3≤n):Calls Tryz.prog 73 #[.pointer (some ⟨bg,0,none⟩),zI zi n] w fun e w'=>e=.returned (zI zi 3)∧w=w':=by
 rcases h with h|h
 ·go_enter Tryz.func73,Tryz.ntmps73
  go_wp2
  go_ret
  exact ⟨rfl,rfl⟩
 ·have h0:¬ n<0:=by omega
  go_enter Tryz.func73,Tryz.ntmps73
  go_wp2
  go_ret
  exact ⟨rfl,rfl⟩
theorem gopen_full (bg bd:Nat) (vs:Nat→Value) (now:Int) (d:Dsk) (k:Nat) (w:World) {R:HP} (h:Holds w (gblk bg bd vs now*(dsk bd d*R))) (hk:k<3) (hd:d.Ok) (hc:100≤d.ep) :
  Calls Tryz.prog 73 #[.pointer (some ⟨bg,0,none⟩),zI zi k] w (Post w (dsk bd d*R) (zI zi 8) (gblk bg bd vs now)):=by
 have c:=(show BlockAt w bg 65 (gcells bd vs now) from h.bl).cell 0 _ rfl
 have H:=zH h;have HD:=zH hd;have HC:=zH hc
 clear h hd hc
 go_enter Tryz.func73,Tryz.ntmps73
 go_wp2_with fail
 refine (nOpen_full bd d _ H.out.two HD.out HC.out).mono ?_
 rintro e w1 ⟨rfl,q1,h1⟩
 have H1:=zH h1;have Q1:=zH q1;clear h1 q1
 go_wp2
 go_ret
 exact ⟨rfl,Q1.out,H1.out.two⟩
theorem gopen_ok (bg bd:Nat) (vs:Nat→Value) (f:Nat→Option Nod) (now:Int) (d:Dsk) (k:Nat) (w:World) {R:HP} (h:Holds w (gblk bg bd vs now*(dsk bd d*(nodes3 bd vs f*R)))) (hk:k<3) (hd:d.Ok) (hc:¬ 100≤d.ep) :
  Calls Tryz.prog 73 #[.pointer (some ⟨bg,0,none⟩),zI zi k] w fun e w'=>e=.returned (zI zi 0)∧Quiet w w'∧∃ vs':Nat→Value,Holds w' (gblk bg bd vs' now*(dsk bd (opened d).1*(nodes3 bd vs' (putN f k ⟨behind (found d),d.ep+1,false⟩)*R))):=by
 have c:=(show BlockAt w bg 65 (gcells bd vs now) from h.bl).cell 0 _ rfl
 have H:=zH h;have HD:=zH hd;have HC:=zH hc
 clear h hd hc
 obtain ⟨d9,hd9⟩:∃ d9,(opened d).1=d9:=⟨_,rfl⟩
 obtain ⟨n9,hn9⟩:∃ n9:Nod,⟨behind (found d),d.ep+1,false⟩=n9:=⟨_,rfl⟩
 rw [hd9,hn9]
 have HD9:=zH hd9;have HN9:=zH hn9
 clear hd9 hn9
 go_enter Tryz.func73,Tryz.ntmps73
 go_wp2_with fail
 refine (nOpen_sl bd d _ H.out.two HD.out (by have:=HC.out;omega)).mono ?_
 rw [HD9.out,HN9.out]
 rintro e w1 ⟨bn,rfl,q1,h1⟩
 have h2:Holds w1 (gblk bg bd vs now*(nod bn bd n9*(dsk bd d9*(nodes3 bd vs f*R)))):=(show Holds w1 (nod bn bd n9*(dsk bd d9*(gblk bg bd vs now*(nodes3 bd vs f*R)))) from h1).eq (by ac_rfl)
 have hb:BlockAt w1 bg 65 (gcells bd vs now):=h2.bl
 have ck:=hb.cell _ _ (gcells_get bd vs now hk)
 have fk:=hb.frees
 have H2:=zH h2;have Q1:=zH q1;clear h1 q1 h2 hb c H
 go_wp2
 go_ret
 refine ⟨rfl,Q1.out.setCell _ _,updV vs k (.pointer (some ⟨bn,0,none⟩)),?_⟩
 have h3:=H2.out.setB (1+k) (.pointer (some ⟨bn,0,none⟩))
 rw [gcells_set _ _ _ hk] at h3
 rw [nodes3_put _ _ _ hk]
 have h4:=(onod_mk ((h3.eq (by rw [nodes3_pick _ _ _ hk];ac_rfl:_=onod (vs k) bd (f k)*(nod bn bd n9*(bl bg 65 (gcells bd (updV vs k (.pointer (some ⟨bn,0,none⟩))) now)*(dsk bd d9*(nrest bd vs f k*R)))))).right))
 exact h4.eq (by unfold gblk;ac_rfl)
def GPost (w:World) (bg:Nat) (R:HP) (x:Gld×Ans) (e:Ending) (w':World):Prop:=e=.returned x.2.val∧Quiet w w'∧Holds w' (gld bg x.1*R)
def sarg (kd x kp:Int) (o:Ord):Value:=.agg #[zI zi kd,zI zi x,zI zi kp,zI zi o.kind,zI zi o.now,zI zi o.job,zI zi o.tr,zI zi o.wk,zI zi o.tm]
def stepBox (g0 ga:Nat) (kd x kp c nw j r k m:Int):HP:=bl ga 88 [zI zi 0,zI zi 0,zI zi 0]*bl g0 86 [zI zi kd,zI zi x,zI zi kp,zI zi c,zI zi nw,zI zi j,zI zi r,zI zi k,zI zi m]
theorem gStep_open (bg bd:Nat) (vs:Nat→Value) (g:Gld) (x kp c nw j r k m:Int) (w:World) {R:HP} (h:Holds w (gblk bg bd vs g.now*(dsk bd g.d*(nodes3 bd vs g.f*R)))) (hd:g.d.Ok) :
  Calls Tryz.prog 44 #[.pointer (some ⟨bg,0,none⟩),.agg #[zI zi 1,zI zi x,zI zi kp,zI zi c,zI zi nw,zI zi j,zI zi r,zI zi k,zI zi m]] w (GPost w bg R (g.step ⟨1,x,kp,⟨c,nw,j,r,k,m⟩⟩)):=by
 obtain ⟨w0,hw0,H0,Q0⟩:∃ w0,(w.alloc (.cells #[zI zi 1,zI zi x,zI zi kp,zI zi c,zI zi nw,zI zi j,zI zi r,zI zi k,zI zi m] 86)).alloc (.cells #[zI zi 0,zI zi 0,zI zi 0] 88)=w0∧Hid (Holds w0 (bl (w.heap.size+1) 88 [zI zi 0,zI zi 0,zI zi 0]*(bl w.heap.size 86 [zI zi 1,zI zi x,zI zi kp,zI zi c,zI zi nw,zI zi j,zI zi r,zI zi k,zI zi m]*(gblk bg bd vs g.now*(dsk bd g.d*(nodes3 bd vs g.f*R))))))∧Hid (Quiet w w0):=
  ⟨_,rfl,zH ((h.boxB (ty:=86) (cs:=[zI zi 1,zI zi x,zI zi kp,zI zi c,zI zi nw,zI zi j,zI zi r,zI zi k,zI zi m]) rfl).boxB (ty:=88) (cs:=[zI zi 0,zI zi 0,zI zi 0]) (g:=w.heap.size+1) (by simp)),zH (((Quiet.refl w).alloc _).alloc _)⟩
 clear h
 obtain ⟨g0,hg0⟩:∃ g0,w.heap.size=g0:=⟨_,rfl⟩
 rw [hg0] at H0
 obtain ⟨ga,hga⟩:∃ ga,g0+1=ga:=⟨_,rfl⟩
 rw [hga] at H0
 have co:=H0.out.two.bl.cells
 have HD:=zH hd;clear hd
 obtain ⟨d,f,now⟩:=g
 dsimp only at H0 HD
 by_cases hx:x<0∨3≤x
 ·have he:(⟨d,f,now⟩:Gld).step ⟨1,x,kp,⟨c,nw,j,r,k,m⟩⟩=(⟨d,f,now⟩,⟨3,0,0⟩):=by
   unfold Gld.step;rw [if_pos rfl,if_pos hx]
  rw [he];clear he
  have HX:=zH hx;clear hx
  go_enter Tryz.func44,Tryz.ntmps44
  go_wp2_with fail
  clear hw0 hg0 hga
  refine (gopen_bad bg x _ HX.out).mono ?_
  rintro e w1 ⟨rfl,rfl⟩
  have ca:=H0.out.bl.cells
  have fa:=H0.out.bl.frees
  have la:=H0.out.bl.lt
  go_wp2
  have hf:=((H0.out.setB 0 (zI zi 3)).setB 1 (zI zi 0)).setB 2 (zI zi 0)
  have hl:=run_load_part (P:=Tryz.prog) (off:=0) (ty:=88) (vs:=[zI zi 3,zI zi 0,zI zi 0]) hf.bl rfl Tryz.underlying88 rfl (by kernel_rfl)
  exact bodyPost_ret (results_cell1 rfl rfl hl) rfl ⟨rfl,((Q0.out.setCell _ _).setCell _ _).setCell _ _,gld_close hf.right.right⟩
 ·obtain ⟨q,rfl⟩:=Int.eq_ofNat_of_zero_le (show 0≤x by omega)
  have hq:q<3:=by omega
  by_cases hc:100≤d.ep
  ·have he:(⟨d,f,now⟩:Gld).step ⟨1,q,kp,⟨c,nw,j,r,k,m⟩⟩=(⟨d,f,now⟩,⟨8,0,0⟩):=by
    unfold Gld.step;rw [if_pos rfl,if_neg hx,if_pos hc]
   rw [he];clear he hx
   have HC:=zH hc;clear hc
   go_enter Tryz.func44,Tryz.ntmps44
   go_wp2_with fail
   clear hw0 hg0 hga
   refine (gopen_full bg bd vs now d q _ (H0.out.eq (by ac_rfl:_=gblk bg bd vs now*(dsk bd d*(bl ga 88 [zI zi 0,zI zi 0,zI zi 0]*(bl g0 86 [zI zi 1,zI zi q,zI zi kp,zI zi c,zI zi nw,zI zi j,zI zi r,zI zi k,zI zi m]*(nodes3 bd vs f*R)))))) hq HD.out HC.out).mono ?_
   rintro e w1 ⟨rfl,q1,h1⟩
   have h2:=h1.eq (by ac_rfl:_=bl ga 88 [zI zi 0,zI zi 0,zI zi 0]*(bl g0 86 [zI zi 1,zI zi q,zI zi kp,zI zi c,zI zi nw,zI zi j,zI zi r,zI zi k,zI zi m]*(gblk bg bd vs now*(dsk bd d*(nodes3 bd vs f*R)))))
   have ca:=h2.bl.cells
   have fa:=h2.bl.frees
   have la:=h2.bl.lt
   have H2:=zH h2;have Q2:=zH (Q0.out.trans q1)
   clear h1 h2 q1 co H0 Q0
   go_wp2
   have hf:=((H2.out.setB 0 (zI zi 8)).setB 1 (zI zi 0)).setB 2 (zI zi 0)
   have hl:=run_load_part (P:=Tryz.prog) (off:=0) (ty:=88) (vs:=[zI zi 8,zI zi 0,zI zi 0]) hf.bl rfl Tryz.underlying88 rfl (by kernel_rfl)
   exact bodyPost_ret (results_cell1 rfl rfl hl) rfl ⟨rfl,((Q2.out.setCell _ _).setCell _ _).setCell _ _,gld_close hf.right.right⟩
  ·have he:(⟨d,f,now⟩:Gld).step ⟨1,q,kp,⟨c,nw,j,r,k,m⟩⟩=(⟨(opened d).1,putN f q ⟨behind (found d),d.ep+1,false⟩,now⟩,⟨0,0,0⟩):=by
    unfold Gld.step;rw [if_pos rfl,if_neg hx,if_neg hc];rfl
   rw [he];clear he hx
   have HC:=zH hc;clear hc
   go_enter Tryz.func44,Tryz.ntmps44
   go_wp2_with fail
   clear hw0 hg0 hga
   refine (gopen_ok bg bd vs f now d q _ (H0.out.eq (by ac_rfl:_=gblk bg bd vs now*(dsk bd d*(nodes3 bd vs f*(bl ga 88 [zI zi 0,zI zi 0,zI zi 0]*(bl g0 86 [zI zi 1,zI zi q,zI zi kp,zI zi c,zI zi nw,zI zi j,zI zi r,zI zi k,zI zi m]*R)))))) hq HD.out (by have:=HC.out;omega)).mono ?_
   rintro e w1 ⟨rfl,q1,vs',h1⟩
   have h2:=h1.eq (by ac_rfl:_=bl ga 88 [zI zi 0,zI zi 0,zI zi 0]*(bl g0 86 [zI zi 1,zI zi q,zI zi kp,zI zi c,zI zi nw,zI zi j,zI zi r,zI zi k,zI zi m]*(gblk bg bd vs' now*(dsk bd (opened d).1*(nodes3 bd vs' (putN f q ⟨behind (found d),d.ep+1,false⟩)*R)))))
   have ca:=h2.bl.cells
   have fa:=h2.bl.frees
   have la:=h2.bl.lt
   have H2:=zH h2;have Q2:=zH (Q0.out.trans q1)
   clear h1 h2 q1 co H0 Q0
   go_wp2
   have hf:=((H2.out.setB 0 (zI zi 0)).setB 1 (zI zi 0)).setB 2 (zI zi 0)
   have hl:=run_load_part (P:=Tryz.prog) (off:=0) (ty:=88) (vs:=[zI zi 0,zI zi 0,zI zi 0]) hf.bl rfl Tryz.underlying88 rfl (by kernel_rfl)
   exact bodyPost_ret (results_cell1 rfl rfl hl) rfl ⟨rfl,((Q2.out.setCell _ _).setCell _ _).setCell _ _,gld_close (g:=⟨(opened d).1,putN f q ⟨behind (found d),d.ep+1,false⟩,now⟩) hf.right.right⟩
theorem gStep_kind (bg bd:Nat) (vs:Nat→Value) (g:Gld) (kd x kp c nw j r k m:Int) (w:World) {R:HP} (h:Holds w (gblk bg bd vs g.now*(dsk bd g.d*(nodes3 bd vs g.f*R)))) (h1:kd≠1) (h2:kd≠2) (h3:kd≠3) (h4:kd≠4) (h5:kd≠5) :
  Calls Tryz.prog 44 #[.pointer (some ⟨bg,0,none⟩),.agg #[zI zi kd,zI zi x,zI zi kp,zI zi c,zI zi nw,zI zi j,zI zi r,zI zi k,zI zi m]] w (GPost w bg R (g.step ⟨kd,x,kp,⟨c,nw,j,r,k,m⟩⟩)):=by
 obtain ⟨w0,hw0,H0,Q0⟩:∃ w0,(w.alloc (.cells #[zI zi kd,zI zi x,zI zi kp,zI zi c,zI zi nw,zI zi j,zI zi r,zI zi k,zI zi m] 86)).alloc (.cells #[zI zi 0,zI zi 0,zI zi 0] 88)=w0∧Hid (Holds w0 (bl (w.heap.size+1) 88 [zI zi 0,zI zi 0,zI zi 0]*(bl w.heap.size 86 [zI zi kd,zI zi x,zI zi kp,zI zi c,zI zi nw,zI zi j,zI zi r,zI zi k,zI zi m]*(gblk bg bd vs g.now*(dsk bd g.d*(nodes3 bd vs g.f*R))))))∧Hid (Quiet w w0):=
  ⟨_,rfl,zH ((h.boxB (ty:=86) (cs:=[zI zi kd,zI zi x,zI zi kp,zI zi c,zI zi nw,zI zi j,zI zi r,zI zi k,zI zi m]) rfl).boxB (ty:=88) (cs:=[zI zi 0,zI zi 0,zI zi 0]) (g:=w.heap.size+1) (by simp)),zH (((Quiet.refl w).alloc _).alloc _)⟩
 clear h
 obtain ⟨g0,hg0⟩:∃ g0,w.heap.size=g0:=⟨_,rfl⟩
 rw [hg0] at H0
 obtain ⟨ga,hga⟩:∃ ga,g0+1=ga:=⟨_,rfl⟩
 rw [hga] at H0
 have co:=H0.out.two.bl.cells
 obtain ⟨d,f,now⟩:=g
 dsimp only at H0
 have he:(⟨d,f,now⟩:Gld).step ⟨kd,x,kp,⟨c,nw,j,r,k,m⟩⟩=(⟨d,f,now⟩,⟨1,0,0⟩):=by
  unfold Gld.step;dsimp only;rw [if_neg h1,if_neg h5,if_neg (by omega)]
 rw [he];clear he
 have b1:(kd==1)=false:=by simpa using h1
 have b2:(kd==2)=false:=by simpa using h2
 have b3:(kd==3)=false:=by simpa using h3
 have b4:(kd==4)=false:=by simpa using h4
 have b5:(kd==5)=false:=by simpa using h5
 clear h1 h2 h3 h4 h5
 have ca:=H0.out.bl.cells
 have fa:=H0.out.bl.frees
 have la:=H0.out.bl.lt
 go_enter Tryz.func44,Tryz.ntmps44
 go_wp2
 have hf:=((H0.out.setB 0 (zI zi 1)).setB 1 (zI zi 0)).setB 2 (zI zi 0)
 have hl:=run_load_part (P:=Tryz.prog) (off:=0) (ty:=88) (vs:=[zI zi 1,zI zi 0,zI zi 0]) hf.bl rfl Tryz.underlying88 rfl (by kernel_rfl)
 exact bodyPost_ret (results_cell1 rfl rfl hl) rfl ⟨rfl,((Q0.out.setCell _ _).setCell _ _).setCell _ _,gld_close hf.right.right⟩
theorem gStep_tick (bg bd:Nat) (vs:Nat→Value) (g:Gld) (x kp c nw j r k m:Int) (w:World) {R:HP} (h:Holds w (gblk bg bd vs g.now*(dsk bd g.d*(nodes3 bd vs g.f*R)))) (hn:0≤g.now∧g.now≤60000) :
  Calls Tryz.prog 44 #[.pointer (some ⟨bg,0,none⟩),.agg #[zI zi 5,zI zi x,zI zi kp,zI zi c,zI zi nw,zI zi j,zI zi r,zI zi k,zI zi m]] w (GPost w bg R (g.step ⟨5,x,kp,⟨c,nw,j,r,k,m⟩⟩)):=by
 obtain ⟨w0,hw0,H0,Q0⟩:∃ w0,(w.alloc (.cells #[zI zi 5,zI zi x,zI zi kp,zI zi c,zI zi nw,zI zi j,zI zi r,zI zi k,zI zi m] 86)).alloc (.cells #[zI zi 0,zI zi 0,zI zi 0] 88)=w0∧Hid (Holds w0 (bl (w.heap.size+1) 88 [zI zi 0,zI zi 0,zI zi 0]*(bl w.heap.size 86 [zI zi 5,zI zi x,zI zi kp,zI zi c,zI zi nw,zI zi j,zI zi r,zI zi k,zI zi m]*(gblk bg bd vs g.now*(dsk bd g.d*(nodes3 bd vs g.f*R))))))∧Hid (Quiet w w0):=
  ⟨_,rfl,zH ((h.boxB (ty:=86) (cs:=[zI zi 5,zI zi x,zI zi kp,zI zi c,zI zi nw,zI zi j,zI zi r,zI zi k,zI zi m]) rfl).boxB (ty:=88) (cs:=[zI zi 0,zI zi 0,zI zi 0]) (g:=w.heap.size+1) (by simp)),zH (((Quiet.refl w).alloc _).alloc _)⟩
 clear h
 obtain ⟨g0,hg0⟩:∃ g0,w.heap.size=g0:=⟨_,rfl⟩
 rw [hg0] at H0
 obtain ⟨ga,hga⟩:∃ ga,g0+1=ga:=⟨_,rfl⟩
 rw [hga] at H0
 have co:=H0.out.two.bl.cells
 obtain ⟨d,f,now⟩:=g
 dsimp only at H0 hn
 have hn0:=hn.1
 have hn1:=hn.2
 clear hn
 have hsub:IntKind.i64.wrap (60000-now)=60000-now:=by rw [IntKind.wrap_i64];omega
 by_cases hx:x<0
 ·have he:(⟨d,f,now⟩:Gld).step ⟨5,x,kp,⟨c,nw,j,r,k,m⟩⟩=(⟨d,f,now⟩,⟨3,0,0⟩):=by
   unfold Gld.step;dsimp only;rw [if_neg (by decide),if_pos rfl,if_pos (.inl hx)]
  rw [he];clear he
  have hxb:decide (x<0)=true:=by simpa using hx
  go_enter Tryz.func44,Tryz.ntmps44
  go_wp2_with fail
  clear hw0 hg0 hga
  refine wp_region_lex (fun W=>(∀ o,W.cell? ⟨g0,o,none⟩=[zI zi 5,zI zi x,zI zi kp,zI zi c,zI zi nw,zI zi j,zI zi r,zI zi k,zI zi m][o]?)∧W.cell? ⟨bg,4,none⟩=some (zI zi now)) [] (by kernel_rfl) (by kernel_rfl) ⟨H0.out.two.drew.bl.cells,(show BlockAt _ bg 65 (gcells bd vs now) from H0.out.three.drew.bl).cell 4 _ rfl⟩ ?_
  repeat (first|(refine LexL.none (by rfl) ?_;(try simp only [zP,zA,zB,zC]))|(refine LexL.still (v:=?_) (by rfl) ?_ ?_;rotate_left;(focus (intro W hW;(try dsimp only at hW);go_simp;(try (with_reducible rfl));done));(try simp only [zP,zA,zB,zC])))
  refine LexL.done ?_
  obtain ⟨w1,hw1,H1,Q1⟩:∃ w1,w0.drew=w1∧Hid (Holds w1 (bl ga 88 [zI zi 0,zI zi 0,zI zi 0]*(bl g0 86 [zI zi 5,zI zi x,zI zi kp,zI zi c,zI zi nw,zI zi j,zI zi r,zI zi k,zI zi m]*(gblk bg bd vs now*(dsk bd d*(nodes3 bd vs f*R))))))∧Hid (Quiet w w1):=⟨_,rfl,zH H0.out.drew,zH Q0.out.drew⟩
  rw [hw1]
  clear hw1 co H0 Q0
  have ca:=H1.out.bl.cells
  have fa:=H1.out.bl.frees
  have la:=H1.out.bl.lt
  go_wp2
  have hf:=((H1.out.setB 0 (zI zi 3)).setB 1 (zI zi 0)).setB 2 (zI zi 0)
  have hl:=run_load_part (P:=Tryz.prog) (off:=0) (ty:=88) (vs:=[zI zi 3,zI zi 0,zI zi 0]) hf.bl rfl Tryz.underlying88 rfl (by kernel_rfl)
  exact bodyPost_ret (results_cell1 rfl rfl hl) rfl ⟨rfl,((Q1.out.setCell _ _).setCell _ _).setCell _ _,gld_close hf.right.right⟩
 ·by_cases hy:60000-now<x
  ·have he:(⟨d,f,now⟩:Gld).step ⟨5,x,kp,⟨c,nw,j,r,k,m⟩⟩=(⟨d,f,now⟩,⟨3,0,0⟩):=by
    unfold Gld.step;dsimp only;rw [if_neg (by decide),if_pos rfl,if_pos (.inr hy)]
   rw [he];clear he
   have hxb:decide (x<0)=false:=by simpa using hx
   have hyb:decide (60000-now<x)=true:=by simpa using hy
   go_enter Tryz.func44,Tryz.ntmps44
   go_wp2_with fail
   clear hw0 hg0 hga
   refine wp_region_lex (fun W=>(∀ o,W.cell? ⟨g0,o,none⟩=[zI zi 5,zI zi x,zI zi kp,zI zi c,zI zi nw,zI zi j,zI zi r,zI zi k,zI zi m][o]?)∧W.cell? ⟨bg,4,none⟩=some (zI zi now)) [] (by kernel_rfl) (by kernel_rfl) ⟨H0.out.two.drew.bl.cells,(show BlockAt _ bg 65 (gcells bd vs now) from H0.out.three.drew.bl).cell 4 _ rfl⟩ ?_
   repeat (first|(refine LexL.none (by rfl) ?_;(try simp only [zP,zA,zB,zC]))|(refine LexL.still (v:=?_) (by rfl) ?_ ?_;rotate_left;(focus (intro W hW;(try dsimp only at hW);go_simp;(try (with_reducible rfl));done));(try simp only [zP,zA,zB,zC])))
   refine LexL.done ?_
   obtain ⟨w1,hw1,H1,Q1⟩:∃ w1,w0.drew=w1∧Hid (Holds w1 (bl ga 88 [zI zi 0,zI zi 0,zI zi 0]*(bl g0 86 [zI zi 5,zI zi x,zI zi kp,zI zi c,zI zi nw,zI zi j,zI zi r,zI zi k,zI zi m]*(gblk bg bd vs now*(dsk bd d*(nodes3 bd vs f*R))))))∧Hid (Quiet w w1):=⟨_,rfl,zH H0.out.drew,zH Q0.out.drew⟩
   rw [hw1]
   clear hw1 co H0 Q0
   have ca:=H1.out.bl.cells
   have fa:=H1.out.bl.frees
   have la:=H1.out.bl.lt
   go_wp2
   have hf:=((H1.out.setB 0 (zI zi 3)).setB 1 (zI zi 0)).setB 2 (zI zi 0)
   have hl:=run_load_part (P:=Tryz.prog) (off:=0) (ty:=88) (vs:=[zI zi 3,zI zi 0,zI zi 0]) hf.bl rfl Tryz.underlying88 rfl (by kernel_rfl)
   exact bodyPost_ret (results_cell1 rfl rfl hl) rfl ⟨rfl,((Q1.out.setCell _ _).setCell _ _).setCell _ _,gld_close hf.right.right⟩
  ·have he:(⟨d,f,now⟩:Gld).step ⟨5,x,kp,⟨c,nw,j,r,k,m⟩⟩=(⟨d,f,now+x⟩,⟨0,0,0⟩):=by
    unfold Gld.step;dsimp only;rw [if_neg (by decide),if_pos rfl,if_neg (by omega)]
   rw [he];clear he
   have hxb:decide (x<0)=false:=by simpa using hx
   have hyb:decide (60000-now<x)=false:=by simpa using hy
   go_enter Tryz.func44,Tryz.ntmps44
   go_wp2_with fail
   clear hw0 hg0 hga
   refine wp_region_lex (fun W=>(∀ o,W.cell? ⟨g0,o,none⟩=[zI zi 5,zI zi x,zI zi kp,zI zi c,zI zi nw,zI zi j,zI zi r,zI zi k,zI zi m][o]?)∧W.cell? ⟨bg,4,none⟩=some (zI zi now)) [] (by kernel_rfl) (by kernel_rfl) ⟨H0.out.two.drew.bl.cells,(show BlockAt _ bg 65 (gcells bd vs now) from H0.out.three.drew.bl).cell 4 _ rfl⟩ ?_
   repeat (first|(refine LexL.none (by rfl) ?_;(try simp only [zP,zA,zB,zC]))|(refine LexL.still (v:=?_) (by rfl) ?_ ?_;rotate_left;(focus (intro W hW;(try dsimp only at hW);go_simp;(try (with_reducible rfl));done));(try simp only [zP,zA,zB,zC])))
   refine LexL.done ?_
   obtain ⟨w1,hw1,H1,Q1⟩:∃ w1,w0.drew=w1∧Hid (Holds w1 (bl ga 88 [zI zi 0,zI zi 0,zI zi 0]*(bl g0 86 [zI zi 5,zI zi x,zI zi kp,zI zi c,zI zi nw,zI zi j,zI zi r,zI zi k,zI zi m]*(gblk bg bd vs now*(dsk bd d*(nodes3 bd vs f*R))))))∧Hid (Quiet w w1):=⟨_,rfl,zH H0.out.drew,zH Q0.out.drew⟩
   rw [hw1]
   clear hw1 co H0 Q0
   have ca:=H1.out.bl.cells
   have fa:=H1.out.bl.frees
   have la:=H1.out.bl.lt
   go_wp2_with fail
   refine wp_region_still_tail 9 (by kernel_rfl) (by kernel_rfl) ?_
   simp only [List.take_succ_cons,List.take_zero,List.drop_succ_cons,List.drop_zero]
   change wpStill _ _ w1.drew (fun a'=>wpList _ _ _ _ a' w1.drew) _ _
   obtain ⟨w2,hw2,H2,Q2⟩:∃ w2,w1.drew=w2∧Hid (Holds w2 (bl ga 88 [zI zi 0,zI zi 0,zI zi 0]*(bl g0 86 [zI zi 5,zI zi x,zI zi kp,zI zi c,zI zi nw,zI zi j,zI zi r,zI zi k,zI zi m]*(gblk bg bd vs now*(dsk bd d*(nodes3 bd vs f*R))))))∧Hid (Quiet w w2):=⟨_,rfl,zH H1.out.drew,zH Q1.out.drew⟩
   rw [hw2]
   clear hw2 ca fa la H1 Q1
   have cs:=H2.out.two.bl.cells
   have c4:=(show BlockAt _ bg 65 (gcells bd vs now) from H2.out.three.bl).cell 4 _ rfl
   have f4:=(show BlockAt _ bg 65 (gcells bd vs now) from H2.out.three.bl).frees
   have l4:=(show BlockAt _ bg 65 (gcells bd vs now) from H2.out.three.bl).lt
   have hsum:IntKind.i64.wrap (now+x)=now+x:=by rw [IntKind.wrap_i64];omega
   have ca:=H2.out.bl.cells
   have fa:=H2.out.bl.frees
   have la:=H2.out.bl.lt
   have hne1:bg≠ga:=BlockAt.ne (show BlockAt w2 bg 65 (gcells bd vs now) from H2.out.three.bl) H2.out.bl (by decide)
   have hne2:=Ne.symm hne1
   repeat still_step
   refine wpStill_nil ?_
   go_wp2
   have h3:=H2.out.three.setB 4 (zI zi (now+x))
   have hf:=((h3.two.setB 0 (zI zi 0)).setB 1 (zI zi 0)).setB 2 (zI zi 0)
   have hl:=run_load_part (P:=Tryz.prog) (off:=0) (ty:=88) (vs:=[zI zi 0,zI zi 0,zI zi 0]) hf.bl rfl Tryz.underlying88 rfl (by kernel_rfl)
   exact bodyPost_ret (results_cell1 rfl rfl hl) rfl ⟨rfl,(((Q2.out.setCell _ _).setCell _ _).setCell _ _).setCell _ _,gld_close (g:=⟨d,f,now+x⟩) hf.right.two.right⟩
end Go.Proofs.YtfihmpkkpgmdhaaGreatDoor
