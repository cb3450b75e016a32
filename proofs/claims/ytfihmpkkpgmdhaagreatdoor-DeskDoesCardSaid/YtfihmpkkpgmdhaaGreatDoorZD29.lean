/-
  What the proof of DeskDoes leans on: definitions, laws, contracts of functions. No condition besides those that each theorem names.
-/
import Derived.Test.YtfihmpkkpgmdhaaGreatDoorZD28
import Derived.Test.YtfihmpkkpgmdhaaGreatDoorZD26
import Derived.Test.YtfihmpkkpgmdhaaGreatDoorZD27
import Derived.Deep.Cut
set_option maxRecDepth 100000
set_option maxHeartbeats 16000000
set_option linter.unusedVariables false
set_option linter.unusedSimpArgs false
set_option linter.unnecessarySimpa false
section
namespace Go.Proofs.YtfihmpkkpgmdhaaGreatDoor
open Go.RowKit
def overg (v:Value) (bd:Nat):Option Nod→HP
 | none=>HP.wi (v=.pointer none) HP.emp
 | some n=>HP.ex fun bn:Nat=>HP.wi (v=.pointer (some ⟨bn,0,none⟩)) (vrg bn bd n)
theorem overg_none {v:Value} {bd:Nat} {R:HP} {w:World} (h:Holds w (overg v bd none*R)):v=.pointer none∧Holds w R:=by
 obtain ⟨hp,h⟩:=wi_open h
 exact ⟨hp,h.right⟩
theorem overg_some {v:Value} {bd:Nat} {n:Nod} {R:HP} {w:World} (h:Holds w (overg v bd (some n)*R)):∃ bn:Nat,v=.pointer (some ⟨bn,0,none⟩)∧Holds w (vrg bn bd n*R):=by
 obtain ⟨bn,h⟩:=HP.ex_mul h
 obtain ⟨hp,h⟩:=wi_open h
 exact ⟨bn,hp,h⟩
theorem overg_mk {bn bd:Nat} {n:Nod} {R:HP} {w:World} (h:Holds w (vrg bn bd n*R)):Holds w (overg (.pointer (some ⟨bn,0,none⟩)) bd (some n)*R):=
 HP.mul_ex (A:=fun bn':Nat=>HP.wi (Value.pointer (some ⟨bn,0,none⟩)=.pointer (some ⟨bn',0,none⟩)) (vrg bn' bd n)) (x:=bn) (wi_close rfl h)
theorem overg_mkNone {bd:Nat} {R:HP} {w:World} (h:Holds w R):Holds w (overg (.pointer none) bd none*R):=wi_close rfl (emp_mul h)
def vergs3 (bd:Nat) (vs:Nat→Value) (f:Nat→Option Nod):HP:=overg (vs 0) bd (f 0)*(overg (vs 1) bd (f 1)*overg (vs 2) bd (f 2))
def vgrest (bd:Nat) (vs:Nat→Value) (f:Nat→Option Nod) (i:Nat):HP:=
 if i=0 then overg (vs 1) bd (f 1)*overg (vs 2) bd (f 2) else if i=1 then overg (vs 0) bd (f 0)*overg (vs 2) bd (f 2) else overg (vs 0) bd (f 0)*overg (vs 1) bd (f 1)
theorem vergs3_pick (bd:Nat) (vs:Nat→Value) (f:Nat→Option Nod) {i:Nat} (hi:i<3):vergs3 bd vs f=overg (vs i) bd (f i)*vgrest bd vs f i:=by
 unfold vergs3 vgrest
 match i,hi with
 | 0,_=>rfl
 | 1,_=>simp only [if_neg (show ¬ (1:Nat)=0 by decide),if_true];ac_rfl
 | 2,_=>simp only [if_neg (show ¬ (2:Nat)=0 by decide),if_neg (show ¬ (2:Nat)=1 by decide)];ac_rfl
theorem vergs3_put (bd:Nat) (vs:Nat→Value) (f:Nat→Option Nod) {i:Nat} (hi:i<3) (v:Value) (n:Nod):vergs3 bd (updV vs i v) (putN f i n)=overg v bd (some n)*vgrest bd vs f i:=by
 rw [vergs3_pick _ _ _ hi]
 have e:vgrest bd (updV vs i v) (putN f i n) i=vgrest bd vs f i:=by
  unfold vgrest updV putN
  match i,hi with
  | 0,_|1,_|2,_=>simp
 rw [e]
 simp [updV,putN]
def chc (vs:Nat→Value) (now:Int):List Value:=[vs 0,vs 1,vs 2,.int .i64 now]
theorem chc_get (e v:Value) (vs:Nat→Value) (now:Int) {i:Nat} (hi:i<3):(e::v::chc vs now)[2+i]? = some (vs i):=by
 match i,hi with
 | 0,_|1,_|2,_=>rfl
theorem chc_set (vs:Nat→Value) (now:Int) {i:Nat} (hi:i<3) (v:Value):(chc vs now).set i v=chc (updV vs i v) now:=by
 match i,hi with
 | 0,_|1,_|2,_=>rfl
def cst (b:Nat) (vs:Nat→Value) (d:Dsk) (now:Int):HP:=plt b 53 (chc vs now) d
def chp (b:Nat) (g:Gld):HP:=HP.ex fun vs:Nat→Value=>cst b vs g.d g.now*vergs3 b vs g.f
theorem chp_open {b:Nat} {g:Gld} {R:HP} {w:World} (h:Holds w (chp b g*R)):∃ vs,Holds w (cst b vs g.d g.now*(vergs3 b vs g.f*R)):=by
 obtain ⟨vs,h⟩:=HP.ex_mul h
 exact ⟨vs,h.eq (by simp only [HP.assoc])⟩
theorem chp_close {b:Nat} {vs:Nat→Value} {g:Gld} {R:HP} {w:World} (h:Holds w (cst b vs g.d g.now*(vergs3 b vs g.f*R))):Holds w (chp b g*R):=
 HP.mul_ex (A:=fun vs:Nat→Value=>cst b vs g.d g.now*vergs3 b vs g.f) (x:=vs) (h.eq (by simp only [HP.assoc]))
theorem cst_bl {b:Nat} {vs:Nat→Value} {d:Dsk} {now:Int} {R:HP} {w:World} (h:Holds w (cst b vs d now*R)):∃ v,BlockAt w b 53 (.int .i64 d.ep::v::chc vs now)∧BytesAt w v d.b:=plt_bl h
theorem cst_put {b:Nat} {vs:Nat→Value} {d:Dsk} {now:Int} {R:HP} {w:World} (h:Holds w (cst b vs d now*R)) {i:Nat} (hi:i<3) (v:Value):Holds (w.setCell ⟨b,2+i,none⟩ v) (cst b (updV vs i v) d now*R):=by
 have:=plt_set h i v (by simp [chc];omega)
 rwa [chc_set vs now hi v] at this
theorem cst_now {b:Nat} {vs:Nat→Value} {d:Dsk} {now:Int} {R:HP} {w:World} (h:Holds w (cst b vs d now*R)) (n:Int):Holds (w.setCell ⟨b,5,none⟩ (.int .i64 n)) (cst b vs d n*R):=plt_set h 3 (.int .i64 n) (by simp [chc])
theorem chp_new {b:Nat} {w:World} {R:HP} (h:Holds w (bl b 53 [.int .i64 0,.slice none 0 0,.pointer none,.pointer none,.pointer none,.int .i64 0]*R)):Holds w (chp b Gld.zero*R):=by
 have h1:Holds w (cst b (fun _=>.pointer none) Dsk.zero 0*R):=h.imp fun F ⟨hb,hF⟩=>⟨by decide,.slice none 0 0,hb,OwnB.nil w,by
  rw [hF]
  funext k
  simp [Value.ownBlock]⟩
 have h2:=overg_mkNone (bd:=b) (overg_mkNone (bd:=b) (overg_mkNone (bd:=b) (h1.eq (HP.comm _ _))))
 exact chp_close (g:=Gld.zero) (vs:=fun _=>.pointer none) (h2.eq (by unfold vergs3;simp only [Gld.zero];ac_rfl))
def ChPost (w:World) (b:Nat) (R:HP) (x:Gld×Ans) (e:Ending) (w':World):Prop:=e=.returned x.2.val∧Quiet w w'∧Holds w' (chp b x.1*R)
end Go.Proofs.YtfihmpkkpgmdhaaGreatDoor
namespace Go.Proofs.YtfihmpkkpgmdhaaGreatDoor
open Go.RowKit
theorem chStep_open (b:Nat) (vs:Nat→Value) (g:Gld) (x kp c nw j r k m:Int) (w:World) {R:HP} (h:Holds w (cst b vs g.d g.now*(vergs3 b vs g.f*R))) (hd:g.d.Ok) :
  Calls Tryz.prog 34 #[.pointer (some ⟨b,0,none⟩),.agg #[.int .i64 1,.int .i64 x,.int .i64 kp,.int .i64 c,.int .i64 nw,.int .i64 j,.int .i64 r,.int .i64 k,.int .i64 m]] w (ChPost w b R (g.step ⟨1,x,kp,⟨c,nw,j,r,k,m⟩⟩)):=by
 obtain ⟨w0,hw0,H0,Q0⟩:∃ w0,(w.alloc (.cells #[.int .i64 1,.int .i64 x,.int .i64 kp,.int .i64 c,.int .i64 nw,.int .i64 j,.int .i64 r,.int .i64 k,.int .i64 m] 86)).alloc (.cells #[.int .i64 0,.int .i64 0,.int .i64 0] 88)=w0∧Hid (Holds w0 (bl (w.heap.size+1) 88 [.int .i64 0,.int .i64 0,.int .i64 0]*(bl w.heap.size 86 [.int .i64 1,.int .i64 x,.int .i64 kp,.int .i64 c,.int .i64 nw,.int .i64 j,.int .i64 r,.int .i64 k,.int .i64 m]*(cst b vs g.d g.now*(vergs3 b vs g.f*R)))))∧Hid (Quiet w w0):=
  ⟨_,rfl,Lib.hid ((h.boxB (ty:=86) (cs:=[.int .i64 1,.int .i64 x,.int .i64 kp,.int .i64 c,.int .i64 nw,.int .i64 j,.int .i64 r,.int .i64 k,.int .i64 m]) rfl).boxB (ty:=88) (cs:=[.int .i64 0,.int .i64 0,.int .i64 0]) (g:=w.heap.size+1) (by simp)),Lib.hid (((Quiet.refl w).alloc _).alloc _)⟩
 clear h
 obtain ⟨g0,hg0⟩:∃ g0,w.heap.size=g0:=⟨_,rfl⟩
 rw [hg0] at H0
 obtain ⟨ga,hga⟩:∃ ga,g0+1=ga:=⟨_,rfl⟩
 rw [hga] at H0
 have co:=H0.out.two.bl.cells
 obtain ⟨d,f,now⟩:=g
 dsimp only at H0
 try dsimp only at hd
 try dsimp only at hn
 by_cases hx:x<0∨3≤x
 ·have he:(⟨d,f,now⟩:Gld).step ⟨1,x,kp,⟨c,nw,j,r,k,m⟩⟩=(⟨d,f,now⟩,⟨3,0,0⟩):=by
   unfold Gld.step;rw [if_pos rfl,if_pos hx]
  rw [he];clear he
  have ca:=H0.out.bl.cells
  have fa:=H0.out.bl.frees
  have la:=H0.out.bl.lt
  rcases hx with hx|hx
  ·go_enter Tryz.func34,Tryz.ntmps34
   go_wp2
   have hf:=((H0.out.setB 0 (.int .i64 3)).setB 1 (.int .i64 0)).setB 2 (.int .i64 0)
   have hl:=run_load_part (P:=Tryz.prog) (off:=0) (ty:=88) (vs:=[.int .i64 3,.int .i64 0,.int .i64 0]) hf.bl rfl Tryz.underlying88 rfl (by kernel_rfl)
   exact bodyPost_ret (results_cell1 rfl rfl hl) rfl ⟨rfl,(((Q0.out.setCell _ _).setCell _ _).setCell _ _),chp_close hf.right.right⟩
  ·have h0:¬ x<0:=by omega
   go_enter Tryz.func34,Tryz.ntmps34
   go_wp2
   have hf:=((H0.out.setB 0 (.int .i64 3)).setB 1 (.int .i64 0)).setB 2 (.int .i64 0)
   have hl:=run_load_part (P:=Tryz.prog) (off:=0) (ty:=88) (vs:=[.int .i64 3,.int .i64 0,.int .i64 0]) hf.bl rfl Tryz.underlying88 rfl (by kernel_rfl)
   exact bodyPost_ret (results_cell1 rfl rfl hl) rfl ⟨rfl,(((Q0.out.setCell _ _).setCell _ _).setCell _ _),chp_close hf.right.right⟩
 ·obtain ⟨q,rfl⟩:=Int.eq_ofNat_of_zero_le (show 0≤x by omega)
  have hq:q<3:=by omega
  have hq0:¬ (q:Int)<0:=by omega
  have hq3:¬ 3≤(q:Int):=by omega
  by_cases hc:100≤d.ep
  ·have he:(⟨d,f,now⟩:Gld).step ⟨1,q,kp,⟨c,nw,j,r,k,m⟩⟩=(⟨d,f,now⟩,⟨8,0,0⟩):=by
    unfold Gld.step;rw [if_pos rfl,if_neg hx,if_pos hc]
   rw [he];clear he hx
   have HC:=Lib.hid hc;have HD:=Lib.hid hd;clear hc hd
   go_enter Tryz.func34,Tryz.ntmps34
   go_wp2_with fail
   clear hw0 hg0 hga
   refine (popened_full b 53 (chc vs now) d _ (H0.out.three) HD.out HC.out).mono ?_
   rintro e w1 ⟨rfl,q1,h1⟩
   have h2:=(show Holds w1 (cst b vs d now*(bl ga 88 [.int .i64 0,.int .i64 0,.int .i64 0]*(bl g0 86 [.int .i64 1,.int .i64 q,.int .i64 kp,.int .i64 c,.int .i64 nw,.int .i64 j,.int .i64 r,.int .i64 k,.int .i64 m]*(vergs3 b vs f*R)))) from h1).eq (by ac_rfl:_=(bl ga 88 [.int .i64 0,.int .i64 0,.int .i64 0]*(bl g0 86 [.int .i64 1,.int .i64 q,.int .i64 kp,.int .i64 c,.int .i64 nw,.int .i64 j,.int .i64 r,.int .i64 k,.int .i64 m]*(cst b vs d now*(vergs3 b vs f*R)))))
   have ca:=h2.bl.cells
   have fa:=h2.bl.frees
   have la:=h2.bl.lt
   have H2:=Lib.hid h2;have Q2:=Lib.hid (Q0.out.trans q1)
   clear h1 h2 q1 co H0 Q0
   go_wp2
   have hf:=((H2.out.setB 0 (.int .i64 8)).setB 1 (.int .i64 0)).setB 2 (.int .i64 0)
   have hl:=run_load_part (P:=Tryz.prog) (off:=0) (ty:=88) (vs:=[.int .i64 8,.int .i64 0,.int .i64 0]) hf.bl rfl Tryz.underlying88 rfl (by kernel_rfl)
   exact bodyPost_ret (results_cell1 rfl rfl hl) rfl ⟨rfl,(((Q2.out.setCell _ _).setCell _ _).setCell _ _),chp_close hf.right.right⟩
  ·have he:(⟨d,f,now⟩:Gld).step ⟨1,q,kp,⟨c,nw,j,r,k,m⟩⟩=(⟨(opened d).1,putN f q ⟨behind (found d),d.ep+1,false⟩,now⟩,⟨0,0,0⟩):=by
    unfold Gld.step;rw [if_pos rfl,if_neg hx,if_neg hc];rfl
   rw [he];clear he hx
   have HC:=Lib.hid hc;have HD:=Lib.hid hd;clear hc hd
   obtain ⟨d9,hd9⟩:∃ d9,(opened d).1=d9:=⟨_,rfl⟩
   obtain ⟨n9,hn9⟩:∃ n9:Nod,⟨behind (found d),d.ep+1,false⟩=n9:=⟨_,rfl⟩
   rw [hd9,hn9]
   have HD9:=Lib.hid hd9;have HN9:=Lib.hid hn9
   clear hd9 hn9
   go_enter Tryz.func34,Tryz.ntmps34
   go_wp2_with fail
   clear hw0 hg0 hga
   refine (popened_sl b 53 (chc vs now) d _ (H0.out.three) HD.out (by have:=HC.out;omega)).mono ?_
   rw [HD9.out,HN9.out]
   rintro e w1 ⟨bv,rfl,q1,h1⟩
   have H2:=Lib.hid ((show Holds w1 (vrg bv b n9*(cst b vs d9 now*(bl ga 88 [.int .i64 0,.int .i64 0,.int .i64 0]*(bl g0 86 [.int .i64 1,.int .i64 q,.int .i64 kp,.int .i64 c,.int .i64 nw,.int .i64 j,.int .i64 r,.int .i64 k,.int .i64 m]*(vergs3 b vs f*R))))) from h1).eq (by ac_rfl:_=cst b vs d9 now*(bl g0 86 [.int .i64 1,.int .i64 q,.int .i64 kp,.int .i64 c,.int .i64 nw,.int .i64 j,.int .i64 r,.int .i64 k,.int .i64 m]*(bl ga 88 [.int .i64 0,.int .i64 0,.int .i64 0]*(vrg bv b n9*(vergs3 b vs f*R))))))
   have Q2:=Lib.hid (Q0.out.trans q1)
   clear h1 q1 co H0 Q0
   obtain ⟨vB,hb,_⟩:=cst_bl H2.out.drew
   have ck:=hb.cell _ _ (chc_get _ _ vs now hq)
   have fk:=hb.frees
   have H3:=Lib.hid (cst_put H2.out.drew hq (.pointer (some ⟨bv,0,none⟩)))
   have Q3:=Lib.hid (Q2.out.drew.setCell ⟨b,2+q,none⟩ (.pointer (some ⟨bv,0,none⟩)))
   have co1:=H2.out.two.bl.cells
   clear hb
   go_wp2_with fail
   refine wp_region_lex (fun W=>∀ o,W.cell? ⟨g0,o,none⟩=([.int .i64 1,.int .i64 q,.int .i64 kp,.int .i64 c,.int .i64 nw,.int .i64 j,.int .i64 r,.int .i64 k,.int .i64 m]:List Value)[o]?) [7] (by kernel_rfl) (by kernel_rfl) H2.out.two.drew.bl.cells ?_
   repeat (first|(refine LexL.none (by rfl) ?_;(try simp only [Act.put,List.setIfInBounds_toArray,List.set_cons_zero,List.set_cons_succ]))|(refine LexL.still (v:=?_) (by rfl) ?_ ?_;rotate_left;(focus (intro W hW;(try dsimp only at hW);go_simp;(try (with_reducible rfl));done));(try simp only [Act.put,List.setIfInBounds_toArray,List.set_cons_zero,List.set_cons_succ])))
   refine LexL.store (w1:=w1.drew.setCell ⟨b,2+q,none⟩ (.pointer (some ⟨bv,0,none⟩))) (by rfl) (by decide) (by go_simp) H3.out.two.bl.cells ?_
   try simp only [Act.put,List.setIfInBounds_toArray,List.set_cons_zero,List.set_cons_succ]
   repeat (first|(refine LexL.none (by rfl) ?_;(try simp only [Act.put,List.setIfInBounds_toArray,List.set_cons_zero,List.set_cons_succ]))|(refine LexL.still (v:=?_) (by rfl) ?_ ?_;rotate_left;(focus (intro W hW;(try dsimp only at hW);go_simp;(try (with_reducible rfl));done));(try simp only [Act.put,List.setIfInBounds_toArray,List.set_cons_zero,List.set_cons_succ])))
   refine LexL.done ?_
   obtain ⟨w2,hw2⟩:∃ w2,w1.drew.setCell ⟨b,2+q,none⟩ (.pointer (some ⟨bv,0,none⟩))=w2:=⟨_,rfl⟩
   rw [hw2] at H3 Q3 ⊢
   have H4:=Lib.hid (H3.out.eq (by ac_rfl:_=bl ga 88 [.int .i64 0,.int .i64 0,.int .i64 0]*(bl g0 86 [.int .i64 1,.int .i64 q,.int .i64 kp,.int .i64 c,.int .i64 nw,.int .i64 j,.int .i64 r,.int .i64 k,.int .i64 m]*(cst b (updV vs q (.pointer (some ⟨bv,0,none⟩))) d9 now*(vrg bv b n9*(vergs3 b vs f*R))))))
   have ca:=H4.out.bl.cells
   have fa:=H4.out.bl.frees
   have la:=H4.out.bl.lt
   clear hw2 ck fk co1 H2 H3 Q2
   go_wp2
   have hf:=((H4.out.setB 0 (.int .i64 0)).setB 1 (.int .i64 0)).setB 2 (.int .i64 0)
   have hl:=run_load_part (P:=Tryz.prog) (off:=0) (ty:=88) (vs:=[.int .i64 0,.int .i64 0,.int .i64 0]) hf.bl rfl Tryz.underlying88 rfl (by kernel_rfl)
   refine bodyPost_ret (results_cell1 rfl rfl hl) rfl ⟨rfl,((Q3.out.setCell _ _).setCell _ _).setCell _ _,chp_close (g:=⟨d9,putN f q n9,now⟩) (vs:=updV vs q (.pointer (some ⟨bv,0,none⟩))) ?_⟩
   rw [vergs3_put _ _ _ hq]
   have h5:=overg_mk ((hf.right.right.eq (by rw [vergs3_pick _ _ _ hq];ac_rfl:_=overg (vs q) b (f q)*(vrg bv b n9*(cst b (updV vs q (.pointer (some ⟨bv,0,none⟩))) d9 now*(vgrest b vs f q*R))))).right)
   exact h5.eq (by ac_rfl)
theorem chStep_kind (b:Nat) (vs:Nat→Value) (g:Gld) (kd x kp c nw j r k m:Int) (w:World) {R:HP} (h:Holds w (cst b vs g.d g.now*(vergs3 b vs g.f*R))) (h1:kd≠1) (h2:kd≠2) (h3:kd≠3) (h4:kd≠4) (h5:kd≠5) :
  Calls Tryz.prog 34 #[.pointer (some ⟨b,0,none⟩),.agg #[.int .i64 kd,.int .i64 x,.int .i64 kp,.int .i64 c,.int .i64 nw,.int .i64 j,.int .i64 r,.int .i64 k,.int .i64 m]] w (ChPost w b R (g.step ⟨kd,x,kp,⟨c,nw,j,r,k,m⟩⟩)):=by
 obtain ⟨w0,hw0,H0,Q0⟩:∃ w0,(w.alloc (.cells #[.int .i64 kd,.int .i64 x,.int .i64 kp,.int .i64 c,.int .i64 nw,.int .i64 j,.int .i64 r,.int .i64 k,.int .i64 m] 86)).alloc (.cells #[.int .i64 0,.int .i64 0,.int .i64 0] 88)=w0∧Hid (Holds w0 (bl (w.heap.size+1) 88 [.int .i64 0,.int .i64 0,.int .i64 0]*(bl w.heap.size 86 [.int .i64 kd,.int .i64 x,.int .i64 kp,.int .i64 c,.int .i64 nw,.int .i64 j,.int .i64 r,.int .i64 k,.int .i64 m]*(cst b vs g.d g.now*(vergs3 b vs g.f*R)))))∧Hid (Quiet w w0):=
  ⟨_,rfl,Lib.hid ((h.boxB (ty:=86) (cs:=[.int .i64 kd,.int .i64 x,.int .i64 kp,.int .i64 c,.int .i64 nw,.int .i64 j,.int .i64 r,.int .i64 k,.int .i64 m]) rfl).boxB (ty:=88) (cs:=[.int .i64 0,.int .i64 0,.int .i64 0]) (g:=w.heap.size+1) (by simp)),Lib.hid (((Quiet.refl w).alloc _).alloc _)⟩
 clear h
 obtain ⟨g0,hg0⟩:∃ g0,w.heap.size=g0:=⟨_,rfl⟩
 rw [hg0] at H0
 obtain ⟨ga,hga⟩:∃ ga,g0+1=ga:=⟨_,rfl⟩
 rw [hga] at H0
 have co:=H0.out.two.bl.cells
 obtain ⟨d,f,now⟩:=g
 dsimp only at H0
 try dsimp only at hd
 try dsimp only at hn
 have he:(⟨d,f,now⟩:Gld).step ⟨kd,x,kp,⟨c,nw,j,r,k,m⟩⟩=(⟨d,f,now⟩,⟨1,0,0⟩):=by
  unfold Gld.step;dsimp only;rw [if_neg h1,if_neg h5,if_neg (by omega)]
 rw [he];clear he
 have b1:(kd==1)=false:=by simpa using h1
 have b2:(kd==2)=false:=by simpa using h2
 have b3:(kd==3)=false:=by simpa using h3
 have b4:(kd==4)=false:=by simpa using h4
 have b5:(kd==5)=false:=by simpa using h5
 clear h1 h2 h3 h4 h5
 have ca:=H0.out.bl.cells
 have fa:=H0.out.bl.frees
 have la:=H0.out.bl.lt
 go_enter Tryz.func34,Tryz.ntmps34
 go_wp2
 have hf:=((H0.out.setB 0 (.int .i64 1)).setB 1 (.int .i64 0)).setB 2 (.int .i64 0)
 have hl:=run_load_part (P:=Tryz.prog) (off:=0) (ty:=88) (vs:=[.int .i64 1,.int .i64 0,.int .i64 0]) hf.bl rfl Tryz.underlying88 rfl (by kernel_rfl)
 exact bodyPost_ret (results_cell1 rfl rfl hl) rfl ⟨rfl,(((Q0.out.setCell _ _).setCell _ _).setCell _ _),chp_close hf.right.right⟩
theorem chStep_tick (b:Nat) (vs:Nat→Value) (g:Gld) (x kp c nw j r k m:Int) (w:World) {R:HP} (h:Holds w (cst b vs g.d g.now*(vergs3 b vs g.f*R))) (hn:0≤g.now∧g.now≤60000) :
  Calls Tryz.prog 34 #[.pointer (some ⟨b,0,none⟩),.agg #[.int .i64 5,.int .i64 x,.int .i64 kp,.int .i64 c,.int .i64 nw,.int .i64 j,.int .i64 r,.int .i64 k,.int .i64 m]] w (ChPost w b R (g.step ⟨5,x,kp,⟨c,nw,j,r,k,m⟩⟩)):=by
 obtain ⟨w0,hw0,H0,Q0⟩:∃ w0,(w.alloc (.cells #[.int .i64 5,.int .i64 x,.int .i64 kp,.int .i64 c,.int .i64 nw,.int .i64 j,.int .i64 r,.int .i64 k,.int .i64 m] 86)).alloc (.cells #[.int .i64 0,.int .i64 0,.int .i64 0] 88)=w0∧Hid (Holds w0 (bl (w.heap.size+1) 88 [.int .i64 0,.int .i64 0,.int .i64 0]*(bl w.heap.size 86 [.int .i64 5,.int .i64 x,.int .i64 kp,.int .i64 c,.int .i64 nw,.int .i64 j,.int .i64 r,.int .i64 k,.int .i64 m]*(cst b vs g.d g.now*(vergs3 b vs g.f*R)))))∧Hid (Quiet w w0):=
  ⟨_,rfl,Lib.hid ((h.boxB (ty:=86) (cs:=[.int .i64 5,.int .i64 x,.int .i64 kp,.int .i64 c,.int .i64 nw,.int .i64 j,.int .i64 r,.int .i64 k,.int .i64 m]) rfl).boxB (ty:=88) (cs:=[.int .i64 0,.int .i64 0,.int .i64 0]) (g:=w.heap.size+1) (by simp)),Lib.hid (((Quiet.refl w).alloc _).alloc _)⟩
 clear h
 obtain ⟨g0,hg0⟩:∃ g0,w.heap.size=g0:=⟨_,rfl⟩
 rw [hg0] at H0
 obtain ⟨ga,hga⟩:∃ ga,g0+1=ga:=⟨_,rfl⟩
 rw [hga] at H0
 have co:=H0.out.two.bl.cells
 obtain ⟨d,f,now⟩:=g
 dsimp only at H0
 try dsimp only at hd
 try dsimp only at hn
 have hn0:=hn.1
 have hn1:=hn.2
 clear hn
 obtain ⟨vB,hb,_⟩:=cst_bl H0.out.three.drew
 have c5:=hb.cell 5 (.int .i64 now) rfl
 clear hb
 by_cases hy:x<0∨60000-now<x
 ·have he:(⟨d,f,now⟩:Gld).step ⟨5,x,kp,⟨c,nw,j,r,k,m⟩⟩=(⟨d,f,now⟩,⟨3,0,0⟩):=by
   unfold Gld.step;dsimp only;rw [if_neg (by decide),if_pos rfl,if_pos hy]
  rw [he];clear he
  by_cases hx:x<0
  ·have hxb:decide (x<0)=true:=by simpa using hx
   clear hy
   go_enter Tryz.func34,Tryz.ntmps34
   go_wp2_with fail
   clear hw0 hg0 hga
   refine wp_region_lex (fun W=>(∀ o,W.cell? ⟨g0,o,none⟩=([.int .i64 5,.int .i64 x,.int .i64 kp,.int .i64 c,.int .i64 nw,.int .i64 j,.int .i64 r,.int .i64 k,.int .i64 m]:List Value)[o]?)∧W.cell? ⟨b,5,none⟩=some (.int .i64 now)) [] (by kernel_rfl) (by kernel_rfl) ⟨H0.out.two.drew.bl.cells,c5⟩ ?_
   repeat (first|(refine LexL.none (by rfl) ?_;(try simp only [Act.put,List.setIfInBounds_toArray,List.set_cons_zero,List.set_cons_succ]))|(refine LexL.still (v:=?_) (by rfl) ?_ ?_;rotate_left;(focus (intro W hW;(try dsimp only at hW);go_simp;(try (with_reducible rfl));done));(try simp only [Act.put,List.setIfInBounds_toArray,List.set_cons_zero,List.set_cons_succ])))
   refine LexL.done ?_
   obtain ⟨w1,hw1,H1,Q1⟩:∃ w1,w0.drew=w1∧Hid (Holds w1 (bl ga 88 [.int .i64 0,.int .i64 0,.int .i64 0]*(bl g0 86 [.int .i64 5,.int .i64 x,.int .i64 kp,.int .i64 c,.int .i64 nw,.int .i64 j,.int .i64 r,.int .i64 k,.int .i64 m]*(cst b vs d now*(vergs3 b vs f*R)))))∧Hid (Quiet w w1):=⟨_,rfl,Lib.hid H0.out.drew,Lib.hid Q0.out.drew⟩
   rw [hw1] at c5 ⊢
   clear hw1 co H0 Q0
   have ca:=H1.out.bl.cells
   have fa:=H1.out.bl.frees
   have la:=H1.out.bl.lt
   go_wp2
   have hf:=((H1.out.setB 0 (.int .i64 3)).setB 1 (.int .i64 0)).setB 2 (.int .i64 0)
   have hl:=run_load_part (P:=Tryz.prog) (off:=0) (ty:=88) (vs:=[.int .i64 3,.int .i64 0,.int .i64 0]) hf.bl rfl Tryz.underlying88 rfl (by kernel_rfl)
   exact bodyPost_ret (results_cell1 rfl rfl hl) rfl ⟨rfl,(((Q1.out.setCell _ _).setCell _ _).setCell _ _),chp_close hf.right.right⟩
  ·have hxb:decide (x<0)=false:=by simpa using hx
   by_cases hz:60000<x
   ·have hzb:decide (60000<x)=true:=by simpa using hz
    clear hy
    go_enter Tryz.func34,Tryz.ntmps34
    go_wp2_with fail
    clear hw0 hg0 hga
    refine wp_region_lex (fun W=>(∀ o,W.cell? ⟨g0,o,none⟩=([.int .i64 5,.int .i64 x,.int .i64 kp,.int .i64 c,.int .i64 nw,.int .i64 j,.int .i64 r,.int .i64 k,.int .i64 m]:List Value)[o]?)∧W.cell? ⟨b,5,none⟩=some (.int .i64 now)) [] (by kernel_rfl) (by kernel_rfl) ⟨H0.out.two.drew.bl.cells,c5⟩ ?_
    repeat (first|(refine LexL.none (by rfl) ?_;(try simp only [Act.put,List.setIfInBounds_toArray,List.set_cons_zero,List.set_cons_succ]))|(refine LexL.still (v:=?_) (by rfl) ?_ ?_;rotate_left;(focus (intro W hW;(try dsimp only at hW);go_simp;(try (with_reducible rfl));done));(try simp only [Act.put,List.setIfInBounds_toArray,List.set_cons_zero,List.set_cons_succ])))
    refine LexL.done ?_
    obtain ⟨w1,hw1,H1,Q1⟩:∃ w1,w0.drew=w1∧Hid (Holds w1 (bl ga 88 [.int .i64 0,.int .i64 0,.int .i64 0]*(bl g0 86 [.int .i64 5,.int .i64 x,.int .i64 kp,.int .i64 c,.int .i64 nw,.int .i64 j,.int .i64 r,.int .i64 k,.int .i64 m]*(cst b vs d now*(vergs3 b vs f*R)))))∧Hid (Quiet w w1):=⟨_,rfl,Lib.hid H0.out.drew,Lib.hid Q0.out.drew⟩
    rw [hw1] at c5 ⊢
    clear hw1 co H0 Q0
    have ca:=H1.out.bl.cells
    have fa:=H1.out.bl.frees
    have la:=H1.out.bl.lt
    go_wp2
    have hf:=((H1.out.setB 0 (.int .i64 3)).setB 1 (.int .i64 0)).setB 2 (.int .i64 0)
    have hl:=run_load_part (P:=Tryz.prog) (off:=0) (ty:=88) (vs:=[.int .i64 3,.int .i64 0,.int .i64 0]) hf.bl rfl Tryz.underlying88 rfl (by kernel_rfl)
    exact bodyPost_ret (results_cell1 rfl rfl hl) rfl ⟨rfl,(((Q1.out.setCell _ _).setCell _ _).setCell _ _),chp_close hf.right.right⟩
   ·have hzb:decide (60000<x)=false:=by simpa using hz
    have hsum:IntKind.i64.wrap (now+x)=now+x:=by rw [IntKind.wrap_i64];omega
    have hyb:decide (60000<now+x)=true:=by simp only [decide_eq_true_eq];omega
    clear hy
    go_enter Tryz.func34,Tryz.ntmps34
    go_wp2_with fail
    clear hw0 hg0 hga
    refine wp_region_lex (fun W=>(∀ o,W.cell? ⟨g0,o,none⟩=([.int .i64 5,.int .i64 x,.int .i64 kp,.int .i64 c,.int .i64 nw,.int .i64 j,.int .i64 r,.int .i64 k,.int .i64 m]:List Value)[o]?)∧W.cell? ⟨b,5,none⟩=some (.int .i64 now)) [] (by kernel_rfl) (by kernel_rfl) ⟨H0.out.two.drew.bl.cells,c5⟩ ?_
    repeat (first|(refine LexL.none (by rfl) ?_;(try simp only [Act.put,List.setIfInBounds_toArray,List.set_cons_zero,List.set_cons_succ]))|(refine LexL.still (v:=?_) (by rfl) ?_ ?_;rotate_left;(focus (intro W hW;(try dsimp only at hW);go_simp;(try (with_reducible rfl));done));(try simp only [Act.put,List.setIfInBounds_toArray,List.set_cons_zero,List.set_cons_succ])))
    refine LexL.done ?_
    obtain ⟨w1,hw1,H1,Q1⟩:∃ w1,w0.drew=w1∧Hid (Holds w1 (bl ga 88 [.int .i64 0,.int .i64 0,.int .i64 0]*(bl g0 86 [.int .i64 5,.int .i64 x,.int .i64 kp,.int .i64 c,.int .i64 nw,.int .i64 j,.int .i64 r,.int .i64 k,.int .i64 m]*(cst b vs d now*(vergs3 b vs f*R)))))∧Hid (Quiet w w1):=⟨_,rfl,Lib.hid H0.out.drew,Lib.hid Q0.out.drew⟩
    rw [hw1] at c5 ⊢
    clear hw1 co H0 Q0
    have ca:=H1.out.bl.cells
    have fa:=H1.out.bl.frees
    have la:=H1.out.bl.lt
    go_wp2
    have hf:=((H1.out.setB 0 (.int .i64 3)).setB 1 (.int .i64 0)).setB 2 (.int .i64 0)
    have hl:=run_load_part (P:=Tryz.prog) (off:=0) (ty:=88) (vs:=[.int .i64 3,.int .i64 0,.int .i64 0]) hf.bl rfl Tryz.underlying88 rfl (by kernel_rfl)
    exact bodyPost_ret (results_cell1 rfl rfl hl) rfl ⟨rfl,(((Q1.out.setCell _ _).setCell _ _).setCell _ _),chp_close hf.right.right⟩
 ·have he:(⟨d,f,now⟩:Gld).step ⟨5,x,kp,⟨c,nw,j,r,k,m⟩⟩=(⟨d,f,now+x⟩,⟨0,0,0⟩):=by
   unfold Gld.step;dsimp only;rw [if_neg (by decide),if_pos rfl,if_neg hy]
  rw [he];clear he
  have hxb:decide (x<0)=false:=by simp only [decide_eq_false_iff_not];omega
  have hzb:decide (60000<x)=false:=by simp only [decide_eq_false_iff_not];omega
  have hsum:IntKind.i64.wrap (now+x)=now+x:=by rw [IntKind.wrap_i64];omega
  have hyb:decide (60000<now+x)=false:=by simp only [decide_eq_false_iff_not];omega
  clear hy
  go_enter Tryz.func34,Tryz.ntmps34
  go_wp2_with fail
  clear hw0 hg0 hga
  refine wp_region_lex (fun W=>(∀ o,W.cell? ⟨g0,o,none⟩=([.int .i64 5,.int .i64 x,.int .i64 kp,.int .i64 c,.int .i64 nw,.int .i64 j,.int .i64 r,.int .i64 k,.int .i64 m]:List Value)[o]?)∧W.cell? ⟨b,5,none⟩=some (.int .i64 now)) [] (by kernel_rfl) (by kernel_rfl) ⟨H0.out.two.drew.bl.cells,c5⟩ ?_
  repeat (first|(refine LexL.none (by rfl) ?_;(try simp only [Act.put,List.setIfInBounds_toArray,List.set_cons_zero,List.set_cons_succ]))|(refine LexL.still (v:=?_) (by rfl) ?_ ?_;rotate_left;(focus (intro W hW;(try dsimp only at hW);go_simp;(try (with_reducible rfl));done));(try simp only [Act.put,List.setIfInBounds_toArray,List.set_cons_zero,List.set_cons_succ])))
  refine LexL.done ?_
  obtain ⟨w1,hw1,H1,Q1⟩:∃ w1,w0.drew=w1∧Hid (Holds w1 (bl ga 88 [.int .i64 0,.int .i64 0,.int .i64 0]*(bl g0 86 [.int .i64 5,.int .i64 x,.int .i64 kp,.int .i64 c,.int .i64 nw,.int .i64 j,.int .i64 r,.int .i64 k,.int .i64 m]*(cst b vs d now*(vergs3 b vs f*R)))))∧Hid (Quiet w w1):=⟨_,rfl,Lib.hid H0.out.drew,Lib.hid Q0.out.drew⟩
  rw [hw1] at c5 ⊢
  clear hw1 co H0 Q0
  have ca:=H1.out.bl.cells
  have fa:=H1.out.bl.frees
  have la:=H1.out.bl.lt
  go_wp2_with fail
  refine wp_region_still_tail 9 (by kernel_rfl) (by kernel_rfl) ?_
  simp only [List.take_succ_cons,List.take_zero,List.drop_succ_cons,List.drop_zero]
  change wpStill _ _ w1.drew (fun a'=>wpList _ _ _ _ a' w1.drew) _ _
  obtain ⟨w2,hw2,H2,Q2⟩:∃ w2,w1.drew=w2∧Hid (Holds w2 (bl ga 88 [.int .i64 0,.int .i64 0,.int .i64 0]*(bl g0 86 [.int .i64 5,.int .i64 x,.int .i64 kp,.int .i64 c,.int .i64 nw,.int .i64 j,.int .i64 r,.int .i64 k,.int .i64 m]*(cst b vs d now*(vergs3 b vs f*R)))))∧Hid (Quiet w w2):=⟨_,rfl,Lib.hid H1.out.drew,Lib.hid Q1.out.drew⟩
  rw [hw2]
  clear hw2 ca fa la H1 Q1 c5
  have cs:=H2.out.two.bl.cells
  obtain ⟨vC,hb,_⟩:=cst_bl H2.out.three
  have c4:=hb.cell 5 (.int .i64 now) rfl
  have f4:=hb.frees
  have l4:=hb.lt
  have ca:=H2.out.bl.cells
  have fa:=H2.out.bl.frees
  have la:=H2.out.bl.lt
  have hne1:b≠ga:=BlockAt.ne hb H2.out.bl (by decide)
  have hne2:=Ne.symm hne1
  clear hb
  repeat still_step
  refine wpStill_nil ?_
  go_wp2
  have h3:=cst_now H2.out.three (now+x)
  have hf:=((h3.two.setB 0 (.int .i64 0)).setB 1 (.int .i64 0)).setB 2 (.int .i64 0)
  have hl:=run_load_part (P:=Tryz.prog) (off:=0) (ty:=88) (vs:=[.int .i64 0,.int .i64 0,.int .i64 0]) hf.bl rfl Tryz.underlying88 rfl (by kernel_rfl)
  exact bodyPost_ret (results_cell1 rfl rfl hl) rfl ⟨rfl,(((Q2.out.setCell _ _).setCell _ _).setCell _ _).setCell _ _,chp_close (g:=⟨d,f,now+x⟩) (hf.right.eq (by ac_rfl:_=bl g0 86 [.int .i64 5,.int .i64 x,.int .i64 kp,.int .i64 c,.int .i64 nw,.int .i64 j,.int .i64 r,.int .i64 k,.int .i64 m]*(cst b vs d (now+x)*(vergs3 b vs f*R)))).right⟩
end Go.Proofs.YtfihmpkkpgmdhaaGreatDoor
namespace Go.Proofs.YtfihmpkkpgmdhaaGreatDoor
open Go.RowKit
theorem chStep_none (b:Nat) (vs:Nat→Value) (g:Gld) (kd x kp c nw j r k m:Int) (w:World) {R:HP} (h:Holds w (cst b vs g.d g.now*(vergs3 b vs g.f*R))) (hk:kd=2∨kd=3∨kd=4) (hn:g.nod x=none) :
  Calls Tryz.prog 34 #[.pointer (some ⟨b,0,none⟩),.agg #[.int .i64 kd,.int .i64 x,.int .i64 kp,.int .i64 c,.int .i64 nw,.int .i64 j,.int .i64 r,.int .i64 k,.int .i64 m]] w (ChPost w b R (g.step ⟨kd,x,kp,⟨c,nw,j,r,k,m⟩⟩)):=by
 obtain ⟨w0,hw0,H0,Q0⟩:∃ w0,(w.alloc (.cells #[.int .i64 kd,.int .i64 x,.int .i64 kp,.int .i64 c,.int .i64 nw,.int .i64 j,.int .i64 r,.int .i64 k,.int .i64 m] 86)).alloc (.cells #[.int .i64 0,.int .i64 0,.int .i64 0] 88)=w0∧Hid (Holds w0 (bl (w.heap.size+1) 88 [.int .i64 0,.int .i64 0,.int .i64 0]*(bl w.heap.size 86 [.int .i64 kd,.int .i64 x,.int .i64 kp,.int .i64 c,.int .i64 nw,.int .i64 j,.int .i64 r,.int .i64 k,.int .i64 m]*(cst b vs g.d g.now*(vergs3 b vs g.f*R)))))∧Hid (Quiet w w0):=
  ⟨_,rfl,Lib.hid ((h.boxB (ty:=86) (cs:=[.int .i64 kd,.int .i64 x,.int .i64 kp,.int .i64 c,.int .i64 nw,.int .i64 j,.int .i64 r,.int .i64 k,.int .i64 m]) rfl).boxB (ty:=88) (cs:=[.int .i64 0,.int .i64 0,.int .i64 0]) (g:=w.heap.size+1) (by simp)),Lib.hid (((Quiet.refl w).alloc _).alloc _)⟩
 clear h
 obtain ⟨g0,hg0⟩:∃ g0,w.heap.size=g0:=⟨_,rfl⟩
 rw [hg0] at H0
 obtain ⟨ga,hga⟩:∃ ga,g0+1=ga:=⟨_,rfl⟩
 rw [hga] at H0
 have co:=H0.out.two.bl.cells
 obtain ⟨d,f,now⟩:=g
 dsimp only at H0
 try dsimp only at hd
 try dsimp only at hn
 have he:(⟨d,f,now⟩:Gld).step ⟨kd,x,kp,⟨c,nw,j,r,k,m⟩⟩=(⟨d,f,now⟩,⟨5,0,0⟩):=by
  unfold Gld.step;dsimp only;rw [if_neg (by omega),if_neg (by omega),if_pos hk,hn]
 rw [he];clear he
 by_cases hx:x<0
 ·have hxb:decide (x<0)=true:=by simpa using hx
  clear hn
  have b1:(kd==1)=false:=by simp only [beq_eq_false_iff_ne,ne_eq];omega
  have b5:(kd==5)=false:=by simp only [beq_eq_false_iff_ne,ne_eq];omega
  obtain ⟨b2,b3,b4,hb⟩:∃ b2 b3 b4:Bool,((kd==2)=b2∧(kd==3)=b3∧(kd==4)=b4)∧(b2 || b3 || b4)=true:=⟨_,_,_,⟨rfl,rfl,rfl⟩,by rcases hk with rfl|rfl|rfl<;>rfl⟩
  clear hk
  rcases (show (b2=true∨(b2=false∧b3=true)∨(b2=false∧b3=false∧b4=true)) by revert hb;cases b2<;>cases b3<;>cases b4<;>simp) with rfl|⟨rfl,rfl⟩|⟨rfl,rfl,rfl⟩
  all_goals obtain ⟨⟨e2,e3,e4⟩,_⟩:=hb
  all_goals
   go_enter Tryz.func34,Tryz.ntmps34
   go_wp2_with fail
   clear hw0 hg0 hga
   refine wp_region_lex (fun W=>(∀ o,W.cell? ⟨g0,o,none⟩=([.int .i64 kd,.int .i64 x,.int .i64 kp,.int .i64 c,.int .i64 nw,.int .i64 j,.int .i64 r,.int .i64 k,.int .i64 m]:List Value)[o]?)) [] (by kernel_rfl) (by kernel_rfl) H0.out.two.drew.bl.cells ?_
   repeat (first|(refine LexL.none (by rfl) ?_;(try simp only [Act.put,List.setIfInBounds_toArray,List.set_cons_zero,List.set_cons_succ]))|(refine LexL.still (v:=?_) (by rfl) ?_ ?_;rotate_left;(focus (intro W hW;(try dsimp only at hW);go_simp;(try (with_reducible rfl));done));(try simp only [Act.put,List.setIfInBounds_toArray,List.set_cons_zero,List.set_cons_succ])))
   refine LexL.done ?_
   obtain ⟨w1,hw1,H1,Q1⟩:∃ w1,w0.drew=w1∧Hid (Holds w1 (bl ga 88 [.int .i64 0,.int .i64 0,.int .i64 0]*(bl g0 86 [.int .i64 kd,.int .i64 x,.int .i64 kp,.int .i64 c,.int .i64 nw,.int .i64 j,.int .i64 r,.int .i64 k,.int .i64 m]*(cst b vs d now*(vergs3 b vs f*R)))))∧Hid (Quiet w w1):=⟨_,rfl,Lib.hid H0.out.drew,Lib.hid Q0.out.drew⟩
   rw [hw1]
   clear hw1 co H0 Q0
   have ca:=H1.out.bl.cells
   have fa:=H1.out.bl.frees
   have la:=H1.out.bl.lt
   go_wp2
   have hf:=((H1.out.setB 0 (.int .i64 5)).setB 1 (.int .i64 0)).setB 2 (.int .i64 0)
   have hl:=run_load_part (P:=Tryz.prog) (off:=0) (ty:=88) (vs:=[.int .i64 5,.int .i64 0,.int .i64 0]) hf.bl rfl Tryz.underlying88 rfl (by kernel_rfl)
   exact bodyPost_ret (results_cell1 rfl rfl hl) rfl ⟨rfl,(((Q1.out.setCell _ _).setCell _ _).setCell _ _),chp_close hf.right.right⟩
 ·have hxb:decide (x<0)=false:=by simpa using hx
  by_cases hx3:3≤x
  ·have hyb:decide (3≤x)=true:=by simpa using hx3
   clear hn
   have b1:(kd==1)=false:=by simp only [beq_eq_false_iff_ne,ne_eq];omega
   have b5:(kd==5)=false:=by simp only [beq_eq_false_iff_ne,ne_eq];omega
   obtain ⟨b2,b3,b4,hb⟩:∃ b2 b3 b4:Bool,((kd==2)=b2∧(kd==3)=b3∧(kd==4)=b4)∧(b2 || b3 || b4)=true:=⟨_,_,_,⟨rfl,rfl,rfl⟩,by rcases hk with rfl|rfl|rfl<;>rfl⟩
   clear hk
   rcases (show (b2=true∨(b2=false∧b3=true)∨(b2=false∧b3=false∧b4=true)) by revert hb;cases b2<;>cases b3<;>cases b4<;>simp) with rfl|⟨rfl,rfl⟩|⟨rfl,rfl,rfl⟩
   all_goals obtain ⟨⟨e2,e3,e4⟩,_⟩:=hb
   all_goals
    go_enter Tryz.func34,Tryz.ntmps34
    go_wp2_with fail
    clear hw0 hg0 hga
    refine wp_region_lex (fun W=>(∀ o,W.cell? ⟨g0,o,none⟩=([.int .i64 kd,.int .i64 x,.int .i64 kp,.int .i64 c,.int .i64 nw,.int .i64 j,.int .i64 r,.int .i64 k,.int .i64 m]:List Value)[o]?)) [] (by kernel_rfl) (by kernel_rfl) H0.out.two.drew.bl.cells ?_
    repeat (first|(refine LexL.none (by rfl) ?_;(try simp only [Act.put,List.setIfInBounds_toArray,List.set_cons_zero,List.set_cons_succ]))|(refine LexL.still (v:=?_) (by rfl) ?_ ?_;rotate_left;(focus (intro W hW;(try dsimp only at hW);go_simp;(try (with_reducible rfl));done));(try simp only [Act.put,List.setIfInBounds_toArray,List.set_cons_zero,List.set_cons_succ])))
    refine LexL.done ?_
    obtain ⟨w1,hw1,H1,Q1⟩:∃ w1,w0.drew=w1∧Hid (Holds w1 (bl ga 88 [.int .i64 0,.int .i64 0,.int .i64 0]*(bl g0 86 [.int .i64 kd,.int .i64 x,.int .i64 kp,.int .i64 c,.int .i64 nw,.int .i64 j,.int .i64 r,.int .i64 k,.int .i64 m]*(cst b vs d now*(vergs3 b vs f*R)))))∧Hid (Quiet w w1):=⟨_,rfl,Lib.hid H0.out.drew,Lib.hid Q0.out.drew⟩
    rw [hw1]
    clear hw1 co H0 Q0
    have ca:=H1.out.bl.cells
    have fa:=H1.out.bl.frees
    have la:=H1.out.bl.lt
    go_wp2
    have hf:=((H1.out.setB 0 (.int .i64 5)).setB 1 (.int .i64 0)).setB 2 (.int .i64 0)
    have hl:=run_load_part (P:=Tryz.prog) (off:=0) (ty:=88) (vs:=[.int .i64 5,.int .i64 0,.int .i64 0]) hf.bl rfl Tryz.underlying88 rfl (by kernel_rfl)
    exact bodyPost_ret (results_cell1 rfl rfl hl) rfl ⟨rfl,(((Q1.out.setCell _ _).setCell _ _).setCell _ _),chp_close hf.right.right⟩
  ·have hyb:decide (3≤x)=false:=by simpa using hx3
   obtain ⟨i,rfl⟩:=Int.eq_ofNat_of_zero_le (show 0≤x by omega)
   have hi:i<3:=by omega
   have hfi:f i=none:=by unfold Gld.nod at hn;rw [if_neg (by omega)] at hn;exact hn
   have hvi:vs i=.pointer none:=(overg_none (H0.out.right.right.right.eq (by rw [vergs3_pick b vs f hi,hfi];ac_rfl:_=overg (vs i) b none*(vgrest b vs f i*R)))).1
   obtain ⟨vB,hb0,_⟩:=cst_bl H0.out.three.drew
   have ci:=hb0.cell _ _ (chc_get _ _ vs now hi)
   rw [hvi] at ci
   clear hn hfi hvi hb0
   have b1:(kd==1)=false:=by simp only [beq_eq_false_iff_ne,ne_eq];omega
   have b5:(kd==5)=false:=by simp only [beq_eq_false_iff_ne,ne_eq];omega
   obtain ⟨b2,b3,b4,hb⟩:∃ b2 b3 b4:Bool,((kd==2)=b2∧(kd==3)=b3∧(kd==4)=b4)∧(b2 || b3 || b4)=true:=⟨_,_,_,⟨rfl,rfl,rfl⟩,by rcases hk with rfl|rfl|rfl<;>rfl⟩
   clear hk
   rcases (show (b2=true∨(b2=false∧b3=true)∨(b2=false∧b3=false∧b4=true)) by revert hb;cases b2<;>cases b3<;>cases b4<;>simp) with rfl|⟨rfl,rfl⟩|⟨rfl,rfl,rfl⟩
   all_goals obtain ⟨⟨e2,e3,e4⟩,_⟩:=hb
   all_goals
    go_enter Tryz.func34,Tryz.ntmps34
    go_wp2_with fail
    clear hw0 hg0 hga
    refine wp_region_lex (fun W=>(∀ o,W.cell? ⟨g0,o,none⟩=([.int .i64 kd,.int .i64 i,.int .i64 kp,.int .i64 c,.int .i64 nw,.int .i64 j,.int .i64 r,.int .i64 k,.int .i64 m]:List Value)[o]?)∧W.cell? ⟨b,2+i,none⟩=some (.pointer none)) [] (by kernel_rfl) (by kernel_rfl) ⟨H0.out.two.drew.bl.cells,ci⟩ ?_
    repeat (first|(refine LexL.none (by rfl) ?_;(try simp only [Act.put,List.setIfInBounds_toArray,List.set_cons_zero,List.set_cons_succ]))|(refine LexL.still (v:=?_) (by rfl) ?_ ?_;rotate_left;(focus (intro W hW;(try dsimp only at hW);go_simp;(try (with_reducible rfl));done));(try simp only [Act.put,List.setIfInBounds_toArray,List.set_cons_zero,List.set_cons_succ])))
    refine LexL.done ?_
    obtain ⟨w1,hw1,H1,Q1⟩:∃ w1,w0.drew=w1∧Hid (Holds w1 (bl ga 88 [.int .i64 0,.int .i64 0,.int .i64 0]*(bl g0 86 [.int .i64 kd,.int .i64 i,.int .i64 kp,.int .i64 c,.int .i64 nw,.int .i64 j,.int .i64 r,.int .i64 k,.int .i64 m]*(cst b vs d now*(vergs3 b vs f*R)))))∧Hid (Quiet w w1):=⟨_,rfl,Lib.hid H0.out.drew,Lib.hid Q0.out.drew⟩
    rw [hw1]
    clear hw1 co H0 Q0
    have ca:=H1.out.bl.cells
    have fa:=H1.out.bl.frees
    have la:=H1.out.bl.lt
    go_wp2
    have hf:=((H1.out.setB 0 (.int .i64 5)).setB 1 (.int .i64 0)).setB 2 (.int .i64 0)
    have hl:=run_load_part (P:=Tryz.prog) (off:=0) (ty:=88) (vs:=[.int .i64 5,.int .i64 0,.int .i64 0]) hf.bl rfl Tryz.underlying88 rfl (by kernel_rfl)
    exact bodyPost_ret (results_cell1 rfl rfl hl) rfl ⟨rfl,(((Q1.out.setCell _ _).setCell _ _).setCell _ _),chp_close hf.right.right⟩
theorem chStep_order (b:Nat) (vs:Nat→Value) (g:Gld) (x kp c nw j r k m:Int) (w:World) {R:HP} (h:Holds w (cst b vs g.d g.now*(vergs3 b vs g.f*R))) (n:Nod) (hn:g.nod x=some n) (hd:g.d.Ok) (hep:1≤n.ep) (hok:n.t.Ok) :
  Calls Tryz.prog 34 #[.pointer (some ⟨b,0,none⟩),.agg #[.int .i64 2,.int .i64 x,.int .i64 kp,.int .i64 c,.int .i64 nw,.int .i64 j,.int .i64 r,.int .i64 k,.int .i64 m]] w (ChPost w b R (g.step ⟨2,x,kp,⟨c,nw,j,r,k,m⟩⟩)):=by
 obtain ⟨w0,hw0,H0,Q0⟩:∃ w0,(w.alloc (.cells #[.int .i64 2,.int .i64 x,.int .i64 kp,.int .i64 c,.int .i64 nw,.int .i64 j,.int .i64 r,.int .i64 k,.int .i64 m] 86)).alloc (.cells #[.int .i64 0,.int .i64 0,.int .i64 0] 88)=w0∧Hid (Holds w0 (bl (w.heap.size+1) 88 [.int .i64 0,.int .i64 0,.int .i64 0]*(bl w.heap.size 86 [.int .i64 2,.int .i64 x,.int .i64 kp,.int .i64 c,.int .i64 nw,.int .i64 j,.int .i64 r,.int .i64 k,.int .i64 m]*(cst b vs g.d g.now*(vergs3 b vs g.f*R)))))∧Hid (Quiet w w0):=
  ⟨_,rfl,Lib.hid ((h.boxB (ty:=86) (cs:=[.int .i64 2,.int .i64 x,.int .i64 kp,.int .i64 c,.int .i64 nw,.int .i64 j,.int .i64 r,.int .i64 k,.int .i64 m]) rfl).boxB (ty:=88) (cs:=[.int .i64 0,.int .i64 0,.int .i64 0]) (g:=w.heap.size+1) (by simp)),Lib.hid (((Quiet.refl w).alloc _).alloc _)⟩
 clear h
 obtain ⟨g0,hg0⟩:∃ g0,w.heap.size=g0:=⟨_,rfl⟩
 rw [hg0] at H0
 obtain ⟨ga,hga⟩:∃ ga,g0+1=ga:=⟨_,rfl⟩
 rw [hga] at H0
 have co:=H0.out.two.bl.cells
 obtain ⟨d,f,now⟩:=g
 dsimp only at H0
 try dsimp only at hd
 try dsimp only at hn
 obtain ⟨⟨d',n',⟨a1,a2,a3⟩⟩,hX⟩:∃ X,n.order d ⟨c,now,j,r,k,m⟩ 9=X:=⟨_,rfl⟩
 have he:(⟨d,f,now⟩:Gld).step ⟨2,x,kp,⟨c,nw,j,r,k,m⟩⟩=(⟨d',putN f x.toNat n',now⟩,⟨a1,a2,a3⟩):=by
  unfold Gld.step;dsimp only;rw [if_neg (by omega),if_neg (by omega),if_pos (by omega),hn]
  dsimp only [Ord.at]
  rw [if_pos rfl,hX]
 rw [he];clear he
 have HX:=Lib.hid hX;clear hX
 have hxx:¬ (x<0∨3≤x):=by
  intro h;unfold Gld.nod at hn;rw [if_pos h] at hn;cases hn
 obtain ⟨i,rfl⟩:=Int.eq_ofNat_of_zero_le (show 0≤x by omega)
 have hi:i<3:=by omega
 have hxb:decide ((i:Int)<0)=false:=by simp only [decide_eq_false_iff_not];omega
 have hyb:decide (3≤(i:Int))=false:=by simp only [decide_eq_false_iff_not];omega
 have hx0:¬ (i:Int)<0:=by omega
 have hx3:¬ 3≤(i:Int):=by omega
 have hfi:f i=some n:=by unfold Gld.nod at hn;rw [if_neg hxx] at hn;exact hn
 have h5:=H0.out.eq (by rw [vergs3_pick b vs f hi,hfi];ac_rfl:_=overg (vs i) b (some n)*(bl ga 88 [.int .i64 0,.int .i64 0,.int .i64 0]*(bl g0 86 [.int .i64 2,.int .i64 i,.int .i64 kp,.int .i64 c,.int .i64 nw,.int .i64 j,.int .i64 r,.int .i64 k,.int .i64 m]*(cst b vs d now*(vgrest b vs f i*R)))))
 obtain ⟨bv,hvi,h6⟩:=overg_some h5
 have HVI:=Lib.hid hvi
 have H6:=Lib.hid (h6.eq (by ac_rfl:_=(bl ga 88 [.int .i64 0,.int .i64 0,.int .i64 0]*(bl g0 86 [.int .i64 2,.int .i64 i,.int .i64 kp,.int .i64 c,.int .i64 nw,.int .i64 j,.int .i64 r,.int .i64 k,.int .i64 m]*(cst b vs d now*(vrg bv b n*(vgrest b vs f i*R)))))))
 obtain ⟨vB,hb0,_⟩:=cst_bl H6.out.three.drew
 have ci:=hb0.cell _ _ (chc_get _ _ vs now hi)
 rw [hvi] at ci
 have HD:=Lib.hid hd;have HEP:=Lib.hid hep;have HOK:=Lib.hid hok
 clear hn hd hep hok hxx hfi h5 h6 hvi hb0 H0
 go_enter Tryz.func34,Tryz.ntmps34
 go_wp2_with fail
 clear hw0 hg0 hga
 refine wp_region_lex (fun W=>(∀ o,W.cell? ⟨g0,o,none⟩=([.int .i64 2,.int .i64 i,.int .i64 kp,.int .i64 c,.int .i64 nw,.int .i64 j,.int .i64 r,.int .i64 k,.int .i64 m]:List Value)[o]?)∧W.cell? ⟨b,2+i,none⟩=some (.pointer (some ⟨bv,0,none⟩))) [] (by kernel_rfl) (by kernel_rfl) ⟨H6.out.two.drew.bl.cells,ci⟩ ?_
 repeat (first|(refine LexL.none (by rfl) ?_;(try simp only [Act.put,List.setIfInBounds_toArray,List.set_cons_zero,List.set_cons_succ]))|(refine LexL.still (v:=?_) (by rfl) ?_ ?_;rotate_left;(focus (intro W hW;(try dsimp only at hW);go_simp;(try (with_reducible rfl));done));(try simp only [Act.put,List.setIfInBounds_toArray,List.set_cons_zero,List.set_cons_succ])))
 refine LexL.done ?_
 obtain ⟨w1,hw1,H7,Q7⟩:∃ w1,w0.drew=w1∧Hid (Holds w1 (bl ga 88 [.int .i64 0,.int .i64 0,.int .i64 0]*(bl g0 86 [.int .i64 2,.int .i64 i,.int .i64 kp,.int .i64 c,.int .i64 nw,.int .i64 j,.int .i64 r,.int .i64 k,.int .i64 m]*(cst b vs d now*(vrg bv b n*(vgrest b vs f i*R))))))∧Hid (Quiet w w1):=⟨_,rfl,Lib.hid H6.out.drew,Lib.hid Q0.out.drew⟩
 rw [hw1] at ci ⊢
 clear hw1 co H6 Q0
 go_wp2_with fail
 refine wp_region_lex (fun W=>(∀ o,W.cell? ⟨g0,o,none⟩=([.int .i64 2,.int .i64 i,.int .i64 kp,.int .i64 c,.int .i64 nw,.int .i64 j,.int .i64 r,.int .i64 k,.int .i64 m]:List Value)[o]?)∧W.cell? ⟨b,2+i,none⟩=some (.pointer (some ⟨bv,0,none⟩))) [] (by kernel_rfl) (by kernel_rfl) ⟨H7.out.two.drew.bl.cells,ci⟩ ?_
 repeat (first|(refine LexL.none (by rfl) ?_;(try simp only [Act.put,List.setIfInBounds_toArray,List.set_cons_zero,List.set_cons_succ]))|(refine LexL.still (v:=?_) (by rfl) ?_ ?_;rotate_left;(focus (intro W hW;(try dsimp only at hW);go_simp;(try (with_reducible rfl));done));(try simp only [Act.put,List.setIfInBounds_toArray,List.set_cons_zero,List.set_cons_succ])))
 refine LexL.done ?_
 obtain ⟨w2,hw2,H8,Q8⟩:∃ w2,w1.drew=w2∧Hid (Holds w2 (bl ga 88 [.int .i64 0,.int .i64 0,.int .i64 0]*(bl g0 86 [.int .i64 2,.int .i64 i,.int .i64 kp,.int .i64 c,.int .i64 nw,.int .i64 j,.int .i64 r,.int .i64 k,.int .i64 m]*(cst b vs d now*(vrg bv b n*(vgrest b vs f i*R))))))∧Hid (Quiet w w2):=⟨_,rfl,Lib.hid H7.out.drew,Lib.hid Q7.out.drew⟩
 rw [hw2]
 clear hw2 ci H7 Q7
 obtain ⟨vC,hb5,_⟩:=cst_bl H8.out.three
 have c5:=hb5.cell 5 (.int .i64 now) rfl
 have fs:=H8.out.two.bl.frees
 have ls:=H8.out.two.bl.lt
 have cs:=H8.out.two.bl.cells
 clear hb5
 go_upto_region 22 with fail
 obtain ⟨w3,hw3,H9,Q9⟩:∃ w3,w2.setCell ⟨g0,4,none⟩ (.int .i64 now)=w3∧Hid (Holds w3 (bl g0 86 [.int .i64 2,.int .i64 i,.int .i64 kp,.int .i64 c,.int .i64 now,.int .i64 j,.int .i64 r,.int .i64 k,.int .i64 m]*(vrg bv b n*(cst b vs d now*(bl ga 88 [.int .i64 0,.int .i64 0,.int .i64 0]*(vgrest b vs f i*R))))))∧Hid (Quiet w w3):=
  ⟨_,rfl,Lib.hid ((H8.out.two.setB 4 (.int .i64 now)).eq (by simp only [List.set_cons_zero,List.set_cons_succ];ac_rfl)),Lib.hid (Q8.out.setCell _ _)⟩
 rw [hw3]
 clear hw3 c5 fs ls cs H8 Q8
 have cs:=H9.out.bl.cells
 go_wp2_with fail
 refine (vorder_sl bv b 53 (chc vs now) d n c now j r k m 9 _ (H9.out.eq (by ac_rfl:_=vrg bv b n*(cst b vs d now*(bl g0 86 [.int .i64 2,.int .i64 i,.int .i64 kp,.int .i64 c,.int .i64 now,.int .i64 j,.int .i64 r,.int .i64 k,.int .i64 m]*(bl ga 88 [.int .i64 0,.int .i64 0,.int .i64 0]*(vgrest b vs f i*R)))))) HD.out HEP.out HOK.out).mono ?_
 rw [show keepN 9=9 from rfl,HX.out]
 rintro e w4 ⟨rfl,q4,h4⟩
 have h4:Holds w4 (vrg bv b n'*(cst b vs d' now*(bl g0 86 [.int .i64 2,.int .i64 i,.int .i64 kp,.int .i64 c,.int .i64 now,.int .i64 j,.int .i64 r,.int .i64 k,.int .i64 m]*(bl ga 88 [.int .i64 0,.int .i64 0,.int .i64 0]*(vgrest b vs f i*R))))):=h4
 have h10:=h4.eq (by ac_rfl:_=bl ga 88 [.int .i64 0,.int .i64 0,.int .i64 0]*(bl g0 86 [.int .i64 2,.int .i64 i,.int .i64 kp,.int .i64 c,.int .i64 now,.int .i64 j,.int .i64 r,.int .i64 k,.int .i64 m]*(vrg bv b n'*(cst b vs d' now*(vgrest b vs f i*R)))))
 have ca:=h10.bl.cells
 have fa:=h10.bl.frees
 have la:=h10.bl.lt
 have H10:=Lib.hid h10;have Q10:=Lib.hid (Q9.out.trans q4)
 clear h4 h10 q4 H9 Q9 cs
 try simp only [Ans.val]
 go_wp2
 have hf:=((H10.out.setB 0 (.int .i64 a1)).setB 1 (.int .i64 a2)).setB 2 (.int .i64 a3)
 have hl:=run_load_part (P:=Tryz.prog) (off:=0) (ty:=88) (vs:=[.int .i64 a1,.int .i64 a2,.int .i64 a3]) hf.bl rfl Tryz.underlying88 rfl (by kernel_rfl)
 have hz:=overg_mk hf.right.right
 rw [←HVI.out] at hz
 exact bodyPost_ret (results_cell1 rfl rfl hl) rfl ⟨rfl,((Q10.out.setCell _ _).setCell _ _).setCell _ _,chp_close (g:=⟨d',putN f i n',now⟩) (vs:=updV vs i (vs i)) (hz.eq (by rw [vergs3_put b vs f hi,updV_self];ac_rfl))⟩
theorem chStep_tear (b:Nat) (vs:Nat→Value) (g:Gld) (x kp c nw j r k m:Int) (w:World) {R:HP} (h:Holds w (cst b vs g.d g.now*(vergs3 b vs g.f*R))) (n:Nod) (hn:g.nod x=some n) (hd:g.d.Ok) (hep:1≤n.ep) (hok:n.t.Ok) :
  Calls Tryz.prog 34 #[.pointer (some ⟨b,0,none⟩),.agg #[.int .i64 3,.int .i64 x,.int .i64 kp,.int .i64 c,.int .i64 nw,.int .i64 j,.int .i64 r,.int .i64 k,.int .i64 m]] w (ChPost w b R (g.step ⟨3,x,kp,⟨c,nw,j,r,k,m⟩⟩)):=by
 obtain ⟨w0,hw0,H0,Q0⟩:∃ w0,(w.alloc (.cells #[.int .i64 3,.int .i64 x,.int .i64 kp,.int .i64 c,.int .i64 nw,.int .i64 j,.int .i64 r,.int .i64 k,.int .i64 m] 86)).alloc (.cells #[.int .i64 0,.int .i64 0,.int .i64 0] 88)=w0∧Hid (Holds w0 (bl (w.heap.size+1) 88 [.int .i64 0,.int .i64 0,.int .i64 0]*(bl w.heap.size 86 [.int .i64 3,.int .i64 x,.int .i64 kp,.int .i64 c,.int .i64 nw,.int .i64 j,.int .i64 r,.int .i64 k,.int .i64 m]*(cst b vs g.d g.now*(vergs3 b vs g.f*R)))))∧Hid (Quiet w w0):=
  ⟨_,rfl,Lib.hid ((h.boxB (ty:=86) (cs:=[.int .i64 3,.int .i64 x,.int .i64 kp,.int .i64 c,.int .i64 nw,.int .i64 j,.int .i64 r,.int .i64 k,.int .i64 m]) rfl).boxB (ty:=88) (cs:=[.int .i64 0,.int .i64 0,.int .i64 0]) (g:=w.heap.size+1) (by simp)),Lib.hid (((Quiet.refl w).alloc _).alloc _)⟩
 clear h
 obtain ⟨g0,hg0⟩:∃ g0,w.heap.size=g0:=⟨_,rfl⟩
 rw [hg0] at H0
 obtain ⟨ga,hga⟩:∃ ga,g0+1=ga:=⟨_,rfl⟩
 rw [hga] at H0
 have co:=H0.out.two.bl.cells
 obtain ⟨d,f,now⟩:=g
 dsimp only at H0
 try dsimp only at hd
 try dsimp only at hn
 obtain ⟨⟨d',n',a1⟩,hX⟩:∃ X,n.tear d ⟨c,now,j,r,k,m⟩ (keepN kp)=X:=⟨_,rfl⟩
 have he:(⟨d,f,now⟩:Gld).step ⟨3,x,kp,⟨c,nw,j,r,k,m⟩⟩=(⟨d',putN f x.toNat n',now⟩,⟨a1,0,0⟩):=by
  unfold Gld.step;dsimp only;rw [if_neg (by omega),if_neg (by omega),if_pos (by omega),hn]
  dsimp only [Ord.at]
  rw [if_neg (by omega),if_pos rfl,hX]
 rw [he];clear he
 have HX:=Lib.hid hX;clear hX
 have hxx:¬ (x<0∨3≤x):=by
  intro h;unfold Gld.nod at hn;rw [if_pos h] at hn;cases hn
 obtain ⟨i,rfl⟩:=Int.eq_ofNat_of_zero_le (show 0≤x by omega)
 have hi:i<3:=by omega
 have hxb:decide ((i:Int)<0)=false:=by simp only [decide_eq_false_iff_not];omega
 have hyb:decide (3≤(i:Int))=false:=by simp only [decide_eq_false_iff_not];omega
 have hx0:¬ (i:Int)<0:=by omega
 have hx3:¬ 3≤(i:Int):=by omega
 have hfi:f i=some n:=by unfold Gld.nod at hn;rw [if_neg hxx] at hn;exact hn
 have h5:=H0.out.eq (by rw [vergs3_pick b vs f hi,hfi];ac_rfl:_=overg (vs i) b (some n)*(bl ga 88 [.int .i64 0,.int .i64 0,.int .i64 0]*(bl g0 86 [.int .i64 3,.int .i64 i,.int .i64 kp,.int .i64 c,.int .i64 nw,.int .i64 j,.int .i64 r,.int .i64 k,.int .i64 m]*(cst b vs d now*(vgrest b vs f i*R)))))
 obtain ⟨bv,hvi,h6⟩:=overg_some h5
 have HVI:=Lib.hid hvi
 have H6:=Lib.hid (h6.eq (by ac_rfl:_=(bl ga 88 [.int .i64 0,.int .i64 0,.int .i64 0]*(bl g0 86 [.int .i64 3,.int .i64 i,.int .i64 kp,.int .i64 c,.int .i64 nw,.int .i64 j,.int .i64 r,.int .i64 k,.int .i64 m]*(cst b vs d now*(vrg bv b n*(vgrest b vs f i*R)))))))
 obtain ⟨vB,hb0,_⟩:=cst_bl H6.out.three.drew
 have ci:=hb0.cell _ _ (chc_get _ _ vs now hi)
 rw [hvi] at ci
 have HD:=Lib.hid hd;have HEP:=Lib.hid hep;have HOK:=Lib.hid hok
 clear hn hd hep hok hxx hfi h5 h6 hvi hb0 H0
 go_enter Tryz.func34,Tryz.ntmps34
 go_wp2_with fail
 clear hw0 hg0 hga
 refine wp_region_lex (fun W=>(∀ o,W.cell? ⟨g0,o,none⟩=([.int .i64 3,.int .i64 i,.int .i64 kp,.int .i64 c,.int .i64 nw,.int .i64 j,.int .i64 r,.int .i64 k,.int .i64 m]:List Value)[o]?)∧W.cell? ⟨b,2+i,none⟩=some (.pointer (some ⟨bv,0,none⟩))) [] (by kernel_rfl) (by kernel_rfl) ⟨H6.out.two.drew.bl.cells,ci⟩ ?_
 repeat (first|(refine LexL.none (by rfl) ?_;(try simp only [Act.put,List.setIfInBounds_toArray,List.set_cons_zero,List.set_cons_succ]))|(refine LexL.still (v:=?_) (by rfl) ?_ ?_;rotate_left;(focus (intro W hW;(try dsimp only at hW);go_simp;(try (with_reducible rfl));done));(try simp only [Act.put,List.setIfInBounds_toArray,List.set_cons_zero,List.set_cons_succ])))
 refine LexL.done ?_
 obtain ⟨w1,hw1,H7,Q7⟩:∃ w1,w0.drew=w1∧Hid (Holds w1 (bl ga 88 [.int .i64 0,.int .i64 0,.int .i64 0]*(bl g0 86 [.int .i64 3,.int .i64 i,.int .i64 kp,.int .i64 c,.int .i64 nw,.int .i64 j,.int .i64 r,.int .i64 k,.int .i64 m]*(cst b vs d now*(vrg bv b n*(vgrest b vs f i*R))))))∧Hid (Quiet w w1):=⟨_,rfl,Lib.hid H6.out.drew,Lib.hid Q0.out.drew⟩
 rw [hw1] at ci ⊢
 clear hw1 co H6 Q0
 go_wp2_with fail
 refine wp_region_lex (fun W=>(∀ o,W.cell? ⟨g0,o,none⟩=([.int .i64 3,.int .i64 i,.int .i64 kp,.int .i64 c,.int .i64 nw,.int .i64 j,.int .i64 r,.int .i64 k,.int .i64 m]:List Value)[o]?)∧W.cell? ⟨b,2+i,none⟩=some (.pointer (some ⟨bv,0,none⟩))) [] (by kernel_rfl) (by kernel_rfl) ⟨H7.out.two.drew.bl.cells,ci⟩ ?_
 repeat (first|(refine LexL.none (by rfl) ?_;(try simp only [Act.put,List.setIfInBounds_toArray,List.set_cons_zero,List.set_cons_succ]))|(refine LexL.still (v:=?_) (by rfl) ?_ ?_;rotate_left;(focus (intro W hW;(try dsimp only at hW);go_simp;(try (with_reducible rfl));done));(try simp only [Act.put,List.setIfInBounds_toArray,List.set_cons_zero,List.set_cons_succ])))
 refine LexL.done ?_
 obtain ⟨w2,hw2,H8,Q8⟩:∃ w2,w1.drew=w2∧Hid (Holds w2 (bl ga 88 [.int .i64 0,.int .i64 0,.int .i64 0]*(bl g0 86 [.int .i64 3,.int .i64 i,.int .i64 kp,.int .i64 c,.int .i64 nw,.int .i64 j,.int .i64 r,.int .i64 k,.int .i64 m]*(cst b vs d now*(vrg bv b n*(vgrest b vs f i*R))))))∧Hid (Quiet w w2):=⟨_,rfl,Lib.hid H7.out.drew,Lib.hid Q7.out.drew⟩
 rw [hw2]
 clear hw2 ci H7 Q7
 obtain ⟨vC,hb5,_⟩:=cst_bl H8.out.three
 have c5:=hb5.cell 5 (.int .i64 now) rfl
 have fs:=H8.out.two.bl.frees
 have ls:=H8.out.two.bl.lt
 have cs:=H8.out.two.bl.cells
 clear hb5
 go_upto_region 22 with fail
 obtain ⟨w3,hw3,H9,Q9⟩:∃ w3,w2.setCell ⟨g0,4,none⟩ (.int .i64 now)=w3∧Hid (Holds w3 (bl g0 86 [.int .i64 3,.int .i64 i,.int .i64 kp,.int .i64 c,.int .i64 now,.int .i64 j,.int .i64 r,.int .i64 k,.int .i64 m]*(vrg bv b n*(cst b vs d now*(bl ga 88 [.int .i64 0,.int .i64 0,.int .i64 0]*(vgrest b vs f i*R))))))∧Hid (Quiet w w3):=
  ⟨_,rfl,Lib.hid ((H8.out.two.setB 4 (.int .i64 now)).eq (by simp only [List.set_cons_zero,List.set_cons_succ];ac_rfl)),Lib.hid (Q8.out.setCell _ _)⟩
 rw [hw3]
 clear hw3 c5 fs ls cs H8 Q8
 have cs:=H9.out.bl.cells
 go_wp2_with fail
 refine (vtear_sl bv b 53 (chc vs now) d n c now j r k m kp _ (H9.out.eq (by ac_rfl:_=vrg bv b n*(cst b vs d now*(bl g0 86 [.int .i64 3,.int .i64 i,.int .i64 kp,.int .i64 c,.int .i64 now,.int .i64 j,.int .i64 r,.int .i64 k,.int .i64 m]*(bl ga 88 [.int .i64 0,.int .i64 0,.int .i64 0]*(vgrest b vs f i*R)))))) HD.out HEP.out HOK.out).mono ?_
 rw [HX.out]
 rintro e w4 ⟨rfl,q4,h4⟩
 have h4:Holds w4 (vrg bv b n'*(cst b vs d' now*(bl g0 86 [.int .i64 3,.int .i64 i,.int .i64 kp,.int .i64 c,.int .i64 now,.int .i64 j,.int .i64 r,.int .i64 k,.int .i64 m]*(bl ga 88 [.int .i64 0,.int .i64 0,.int .i64 0]*(vgrest b vs f i*R))))):=h4
 have h10:=h4.eq (by ac_rfl:_=bl ga 88 [.int .i64 0,.int .i64 0,.int .i64 0]*(bl g0 86 [.int .i64 3,.int .i64 i,.int .i64 kp,.int .i64 c,.int .i64 now,.int .i64 j,.int .i64 r,.int .i64 k,.int .i64 m]*(vrg bv b n'*(cst b vs d' now*(vgrest b vs f i*R)))))
 have ca:=h10.bl.cells
 have fa:=h10.bl.frees
 have la:=h10.bl.lt
 have H10:=Lib.hid h10;have Q10:=Lib.hid (Q9.out.trans q4)
 clear h4 h10 q4 H9 Q9 cs
 try simp only [Ans.val]
 go_wp2
 have hf:=((H10.out.setB 0 (.int .i64 a1)).setB 1 (.int .i64 0)).setB 2 (.int .i64 0)
 have hl:=run_load_part (P:=Tryz.prog) (off:=0) (ty:=88) (vs:=[.int .i64 a1,.int .i64 0,.int .i64 0]) hf.bl rfl Tryz.underlying88 rfl (by kernel_rfl)
 have hz:=overg_mk hf.right.right
 rw [←HVI.out] at hz
 exact bodyPost_ret (results_cell1 rfl rfl hl) rfl ⟨rfl,((Q10.out.setCell _ _).setCell _ _).setCell _ _,chp_close (g:=⟨d',putN f i n',now⟩) (vs:=updV vs i (vs i)) (hz.eq (by rw [vergs3_put b vs f hi,updV_self];ac_rfl))⟩
theorem chStep_down (b:Nat) (vs:Nat→Value) (g:Gld) (x kp c nw j r k m:Int) (w:World) {R:HP} (h:Holds w (cst b vs g.d g.now*(vergs3 b vs g.f*R))) (n:Nod) (hn:g.nod x=some n) (hd:g.d.Ok) (hep:1≤n.ep) (hok:n.t.Ok) :
  Calls Tryz.prog 34 #[.pointer (some ⟨b,0,none⟩),.agg #[.int .i64 4,.int .i64 x,.int .i64 kp,.int .i64 c,.int .i64 nw,.int .i64 j,.int .i64 r,.int .i64 k,.int .i64 m]] w (ChPost w b R (g.step ⟨4,x,kp,⟨c,nw,j,r,k,m⟩⟩)):=by
 obtain ⟨w0,hw0,H0,Q0⟩:∃ w0,(w.alloc (.cells #[.int .i64 4,.int .i64 x,.int .i64 kp,.int .i64 c,.int .i64 nw,.int .i64 j,.int .i64 r,.int .i64 k,.int .i64 m] 86)).alloc (.cells #[.int .i64 0,.int .i64 0,.int .i64 0] 88)=w0∧Hid (Holds w0 (bl (w.heap.size+1) 88 [.int .i64 0,.int .i64 0,.int .i64 0]*(bl w.heap.size 86 [.int .i64 4,.int .i64 x,.int .i64 kp,.int .i64 c,.int .i64 nw,.int .i64 j,.int .i64 r,.int .i64 k,.int .i64 m]*(cst b vs g.d g.now*(vergs3 b vs g.f*R)))))∧Hid (Quiet w w0):=
  ⟨_,rfl,Lib.hid ((h.boxB (ty:=86) (cs:=[.int .i64 4,.int .i64 x,.int .i64 kp,.int .i64 c,.int .i64 nw,.int .i64 j,.int .i64 r,.int .i64 k,.int .i64 m]) rfl).boxB (ty:=88) (cs:=[.int .i64 0,.int .i64 0,.int .i64 0]) (g:=w.heap.size+1) (by simp)),Lib.hid (((Quiet.refl w).alloc _).alloc _)⟩
 clear h
 obtain ⟨g0,hg0⟩:∃ g0,w.heap.size=g0:=⟨_,rfl⟩
 rw [hg0] at H0
 obtain ⟨ga,hga⟩:∃ ga,g0+1=ga:=⟨_,rfl⟩
 rw [hga] at H0
 have co:=H0.out.two.bl.cells
 obtain ⟨d,f,now⟩:=g
 dsimp only at H0
 try dsimp only at hd
 try dsimp only at hn
 have he:(⟨d,f,now⟩:Gld).step ⟨4,x,kp,⟨c,nw,j,r,k,m⟩⟩=(⟨d,putN f x.toNat ⟨n.t,n.ep,true⟩,now⟩,⟨0,0,0⟩):=by
  unfold Gld.step;dsimp only;rw [if_neg (by omega),if_neg (by omega),if_pos (by omega),hn]
  dsimp only
  rw [if_neg (by omega),if_neg (by omega)]
 rw [he];clear he
 have hxx:¬ (x<0∨3≤x):=by
  intro h;unfold Gld.nod at hn;rw [if_pos h] at hn;cases hn
 obtain ⟨i,rfl⟩:=Int.eq_ofNat_of_zero_le (show 0≤x by omega)
 have hi:i<3:=by omega
 have hxb:decide ((i:Int)<0)=false:=by simp only [decide_eq_false_iff_not];omega
 have hyb:decide (3≤(i:Int))=false:=by simp only [decide_eq_false_iff_not];omega
 have hx0:¬ (i:Int)<0:=by omega
 have hx3:¬ 3≤(i:Int):=by omega
 have hfi:f i=some n:=by unfold Gld.nod at hn;rw [if_neg hxx] at hn;exact hn
 have h5:=H0.out.eq (by rw [vergs3_pick b vs f hi,hfi];ac_rfl:_=overg (vs i) b (some n)*(bl ga 88 [.int .i64 0,.int .i64 0,.int .i64 0]*(bl g0 86 [.int .i64 4,.int .i64 i,.int .i64 kp,.int .i64 c,.int .i64 nw,.int .i64 j,.int .i64 r,.int .i64 k,.int .i64 m]*(cst b vs d now*(vgrest b vs f i*R)))))
 obtain ⟨bv,hvi,h6⟩:=overg_some h5
 have HVI:=Lib.hid hvi
 have H6:=Lib.hid (h6.eq (by ac_rfl:_=(bl ga 88 [.int .i64 0,.int .i64 0,.int .i64 0]*(bl g0 86 [.int .i64 4,.int .i64 i,.int .i64 kp,.int .i64 c,.int .i64 nw,.int .i64 j,.int .i64 r,.int .i64 k,.int .i64 m]*(cst b vs d now*(vrg bv b n*(vgrest b vs f i*R)))))))
 obtain ⟨vB,hb0,_⟩:=cst_bl H6.out.three.drew
 have ci:=hb0.cell _ _ (chc_get _ _ vs now hi)
 rw [hvi] at ci
 have HD:=Lib.hid hd;have HEP:=Lib.hid hep;have HOK:=Lib.hid hok
 clear hn hd hep hok hxx hfi h5 h6 hvi hb0 H0
 go_enter Tryz.func34,Tryz.ntmps34
 go_wp2_with fail
 clear hw0 hg0 hga
 refine wp_region_lex (fun W=>(∀ o,W.cell? ⟨g0,o,none⟩=([.int .i64 4,.int .i64 i,.int .i64 kp,.int .i64 c,.int .i64 nw,.int .i64 j,.int .i64 r,.int .i64 k,.int .i64 m]:List Value)[o]?)∧W.cell? ⟨b,2+i,none⟩=some (.pointer (some ⟨bv,0,none⟩))) [] (by kernel_rfl) (by kernel_rfl) ⟨H6.out.two.drew.bl.cells,ci⟩ ?_
 repeat (first|(refine LexL.none (by rfl) ?_;(try simp only [Act.put,List.setIfInBounds_toArray,List.set_cons_zero,List.set_cons_succ]))|(refine LexL.still (v:=?_) (by rfl) ?_ ?_;rotate_left;(focus (intro W hW;(try dsimp only at hW);go_simp;(try (with_reducible rfl));done));(try simp only [Act.put,List.setIfInBounds_toArray,List.set_cons_zero,List.set_cons_succ])))
 refine LexL.done ?_
 obtain ⟨w1,hw1,H7,Q7⟩:∃ w1,w0.drew=w1∧Hid (Holds w1 (bl ga 88 [.int .i64 0,.int .i64 0,.int .i64 0]*(bl g0 86 [.int .i64 4,.int .i64 i,.int .i64 kp,.int .i64 c,.int .i64 nw,.int .i64 j,.int .i64 r,.int .i64 k,.int .i64 m]*(cst b vs d now*(vrg bv b n*(vgrest b vs f i*R))))))∧Hid (Quiet w w1):=⟨_,rfl,Lib.hid H6.out.drew,Lib.hid Q0.out.drew⟩
 rw [hw1] at ci ⊢
 clear hw1 co H6 Q0
 go_wp2_with fail
 refine wp_region_lex (fun W=>(∀ o,W.cell? ⟨g0,o,none⟩=([.int .i64 4,.int .i64 i,.int .i64 kp,.int .i64 c,.int .i64 nw,.int .i64 j,.int .i64 r,.int .i64 k,.int .i64 m]:List Value)[o]?)∧W.cell? ⟨b,2+i,none⟩=some (.pointer (some ⟨bv,0,none⟩))) [] (by kernel_rfl) (by kernel_rfl) ⟨H7.out.two.drew.bl.cells,ci⟩ ?_
 repeat (first|(refine LexL.none (by rfl) ?_;(try simp only [Act.put,List.setIfInBounds_toArray,List.set_cons_zero,List.set_cons_succ]))|(refine LexL.still (v:=?_) (by rfl) ?_ ?_;rotate_left;(focus (intro W hW;(try dsimp only at hW);go_simp;(try (with_reducible rfl));done));(try simp only [Act.put,List.setIfInBounds_toArray,List.set_cons_zero,List.set_cons_succ])))
 refine LexL.done ?_
 obtain ⟨w2,hw2,H8,Q8⟩:∃ w2,w1.drew=w2∧Hid (Holds w2 (bl ga 88 [.int .i64 0,.int .i64 0,.int .i64 0]*(bl g0 86 [.int .i64 4,.int .i64 i,.int .i64 kp,.int .i64 c,.int .i64 nw,.int .i64 j,.int .i64 r,.int .i64 k,.int .i64 m]*(cst b vs d now*(vrg bv b n*(vgrest b vs f i*R))))))∧Hid (Quiet w w2):=⟨_,rfl,Lib.hid H7.out.drew,Lib.hid Q7.out.drew⟩
 rw [hw2]
 clear hw2 ci H7 Q7
 obtain ⟨vC,hb5,_⟩:=cst_bl H8.out.three
 have c5:=hb5.cell 5 (.int .i64 now) rfl
 have fs:=H8.out.two.bl.frees
 have ls:=H8.out.two.bl.lt
 have cs:=H8.out.two.bl.cells
 clear hb5
 go_upto_region 22 with fail
 obtain ⟨w3,hw3,H9,Q9⟩:∃ w3,w2.setCell ⟨g0,4,none⟩ (.int .i64 now)=w3∧Hid (Holds w3 (bl g0 86 [.int .i64 4,.int .i64 i,.int .i64 kp,.int .i64 c,.int .i64 now,.int .i64 j,.int .i64 r,.int .i64 k,.int .i64 m]*(vrg bv b n*(cst b vs d now*(bl ga 88 [.int .i64 0,.int .i64 0,.int .i64 0]*(vgrest b vs f i*R))))))∧Hid (Quiet w w3):=
  ⟨_,rfl,Lib.hid ((H8.out.two.setB 4 (.int .i64 now)).eq (by simp only [List.set_cons_zero,List.set_cons_succ];ac_rfl)),Lib.hid (Q8.out.setCell _ _)⟩
 rw [hw3]
 clear hw3 c5 fs ls cs H8 Q8
 have cs:=H9.out.bl.cells
 have h10:=H9.out.eq (by unfold vrg;ac_rfl:_=bl ga 88 [.int .i64 0,.int .i64 0,.int .i64 0]*(bl g0 86 [.int .i64 4,.int .i64 i,.int .i64 kp,.int .i64 c,.int .i64 now,.int .i64 j,.int .i64 r,.int .i64 k,.int .i64 m]*(bl bv 99 (gcl b n)*(cst b vs d now*(vgrest b vs f i*R)))))
 have ca:=h10.bl.cells
 have fa:=h10.bl.frees
 have la:=h10.bl.lt
 have bv0:=h10.three.bl
 have cv:=bv0.cell 27 (.bool n.down) rfl
 have fv:=bv0.frees
 have lv:=bv0.lt
 have hne1:bv≠ga:=BlockAt.ne bv0 h10.bl (by decide)
 have hne2:=Ne.symm hne1
 have H10:=Lib.hid h10
 clear h10 bv0
 go_wp2
 have h11:=H10.out.three.setB 27 (.bool true)
 have hf:=((h11.two.setB 0 (.int .i64 0)).setB 1 (.int .i64 0)).setB 2 (.int .i64 0)
 have hl:=run_load_part (P:=Tryz.prog) (off:=0) (ty:=88) (vs:=[.int .i64 0,.int .i64 0,.int .i64 0]) hf.bl rfl Tryz.underlying88 rfl (by kernel_rfl)
 have hf2:=hf.eq (by ac_rfl:_=bl bv 99 ((gcl b n).set 27 (.bool true))*(bl ga 88 [.int .i64 0,.int .i64 0,.int .i64 0]*(bl g0 86 [.int .i64 4,.int .i64 i,.int .i64 kp,.int .i64 c,.int .i64 now,.int .i64 j,.int .i64 r,.int .i64 k,.int .i64 m]*(cst b vs d now*(vgrest b vs f i*R)))))
 rw [gcl_setDown] at hf2
 have hz:=overg_mk (show Holds _ (vrg bv b ⟨n.t,n.ep,true⟩*(bl ga 88 [.int .i64 0,.int .i64 0,.int .i64 0]*(bl g0 86 [.int .i64 4,.int .i64 i,.int .i64 kp,.int .i64 c,.int .i64 now,.int .i64 j,.int .i64 r,.int .i64 k,.int .i64 m]*(cst b vs d now*(vgrest b vs f i*R))))) from hf2)
 rw [←HVI.out] at hz
 exact bodyPost_ret (results_cell1 rfl rfl hl) rfl ⟨rfl,(((Q9.out.setCell _ _).setCell _ _).setCell _ _).setCell _ _,chp_close (g:=⟨d,putN f i ⟨n.t,n.ep,true⟩,now⟩) (vs:=updV vs i (vs i)) ((hz.eq (by rw [vergs3_put b vs f hi,updV_self];ac_rfl:_=(bl ga 88 [.int .i64 0,.int .i64 0,.int .i64 0]*bl g0 86 [.int .i64 4,.int .i64 i,.int .i64 kp,.int .i64 c,.int .i64 now,.int .i64 j,.int .i64 r,.int .i64 k,.int .i64 m])*(cst b (updV vs i (vs i)) d now*(vergs3 b (updV vs i (vs i)) (putN f i ⟨n.t,n.ep,true⟩)*R)))).right)⟩
theorem chstep_sl (b:Nat) (g:Gld) (kd x kp c nw j r k m:Int) (w:World) {R:HP} (h:Holds w (chp b g*R)) (hg:g.Good) :
  Calls Tryz.prog 34 #[.pointer (some ⟨b,0,none⟩),.agg #[.int .i64 kd,.int .i64 x,.int .i64 kp,.int .i64 c,.int .i64 nw,.int .i64 j,.int .i64 r,.int .i64 k,.int .i64 m]] w (ChPost w b R (g.step ⟨kd,x,kp,⟨c,nw,j,r,k,m⟩⟩)):=by
 obtain ⟨l,hg⟩:=hg
 obtain ⟨vs,h⟩:=chp_open h
 by_cases h1:kd=1
 ·subst h1;exact chStep_open b vs g x kp c nw j r k m w h hg.fam.ok
 by_cases h5:kd=5
 ·subst h5;exact chStep_tick b vs g x kp c nw j r k m w h hg.now
 by_cases hk:kd=2∨kd=3∨kd=4
 ·cases hn:g.nod x with
  | none=>exact chStep_none b vs g kd x kp c nw j r k m w h hk hn
  | some n=>
   have hs:=hg.fam.sv _ _ (nod_some hn).2.1
   rcases hk with rfl|rfl|rfl
   ·exact chStep_order b vs g x kp c nw j r k m w h n hn hg.fam.ok hs.1.1 hs.2.1.ok
   ·exact chStep_tear b vs g x kp c nw j r k m w h n hn hg.fam.ok hs.1.1 hs.2.1.ok
   ·exact chStep_down b vs g x kp c nw j r k m w h n hn hg.fam.ok hs.1.1 hs.2.1.ok
 ·exact chStep_kind b vs g kd x kp c nw j r k m w h h1 (by omega) (by omega) (by omega) h5
end Go.Proofs.YtfihmpkkpgmdhaaGreatDoor
end
