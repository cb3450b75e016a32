/-
  What the proof of DeskDoes leans on: definitions, laws, contracts of functions. No condition besides those that each theorem names.
-/
import Derived.Test.YtfihmpkkpgmdhaaGreatDoorZD16
import Derived.Test.YtfihmpkkpgmdhaaGreatDoorZD23
import Derived.Test.YtfihmpkkpgmdhaaGreatDoorZD05
import Derived.Test.YtfihmpkkpgmdhaaGreatDoorZD27
import Derived.Test.YtfihmpkkpgmdhaaGreatDoorZD18
import Derived.Test.YtfihmpkkpgmdhaaGreatDoorZD13
import Derived.Lib.MinMax
import Derived.Test.YtfihmpkkpgmdhaaGreatDoorZD21
set_option maxRecDepth 100000
set_option maxHeartbeats 16000000
set_option linter.unusedVariables false
set_option linter.unusedSimpArgs false
set_option linter.unnecessarySimpa false
section
namespace Go.Proofs.YtfihmpkkpgmdhaaGreatDoor
open Go.RowKit
theorem HP.emp_mul (A:HP):HP.emp*A=A:=HP.ext' fun F w=>⟨fun ⟨F1,F2,hd,hF,ha,hb⟩=>by
  have e:F=F2:=by
   funext k
   have h1:¬ F1 k:=ha k
   exact propext ((hF k).trans ⟨fun h=>h.elim (fun h=>absurd h h1) id,.inr⟩)
  rw [e];exact hb,fun h=>⟨fun _=>False,F,fun _ h=>h.elim,fun k=>by simp,fun k h=>h,h⟩⟩
def plt (b:Nat) (ty:TypeId) (rest:List Value) (d:Dsk):HP where
 on F w:=PlateAt w b ty rest d F
 lt:=fun h k hk=>h.inW k hk
 keep:=by
  rintro F w w' ⟨ht,v,hb,hv,rfl⟩ hk
  refine ⟨ht,v,by unfold BlockAt at *;rw [hk b (.inl rfl)];exact hb,?_,rfl⟩
  exact ((ownb v d.b).keep (F:=fun k=>v.ownBlock=some k) ⟨hv,rfl⟩ fun k h=>hk k (.inr h)).1
theorem Holds.platePost {w w':World} {b:Nat} {ty:TypeId} {rest:List Value} {d':Dsk} {R:HP} {v:Value} {e:Ending} {F:Nat→Prop} (hn:∀ (w':World) (F':Nat→Prop) (B:HP),B.on F' w'→Upd F w w'→From w F F'→Holds w' (B*R)) (hp:PlatePost w b ty rest F d' v e w'):Post w R v (plt b ty rest d') e w':=by
 obtain ⟨F',he,h1,h2,h3⟩:=hp
 exact ⟨he,Quiet.upd h2,hn _ _ (plt b ty rest d') h1 h2 h3⟩
theorem praise_sl (b:Nat) (ty:TypeId) (rest:List Value) (d:Dsk) (w:World) {R:HP} (h:Holds w (plt b ty rest d*R)) (hok:d.Ok) :
  Calls Tryz.prog 89 #[.pointer (some ⟨b,0,none⟩)] w (Post w R (.tuple #[.int .i64 d.raise.2.1,.int .i64 d.raise.2.2]) (plt b ty rest d.raise.1)):=by
 obtain ⟨F,hF,hn⟩:=h.open
 exact (praise_any b ty rest d F w hF hok).mono fun e w' hp=>Holds.platePost hn hp
theorem pappend_sl (b:Nat) (ty:TypeId) (rest:List Value) (d:Dsk) (x:Int) (y:Value) (m:List UInt8) (w:World) {R:HP} (h:Holds w (plt b ty rest d*R)) (hok:d.Ok) (hy:BytesAt w y m) (hm:m.length≤100000) :
  Calls Tryz.prog 95 #[.pointer (some ⟨b,0,none⟩),.int .i64 x,y] w (Post w R (.int .i64 (d.append x m).2) (plt b ty rest (d.append x m).1)):=by
 obtain ⟨F,hF,hn⟩:=h.open
 exact (pappend_any b ty rest d F x y m w hF hok hy hm).mono fun e w' hp=>Holds.platePost hn hp
theorem pcut_sl (b:Nat) (ty:TypeId) (rest:List Value) (d:Dsk) (x n:Int) (w:World) {R:HP} (h:Holds w (plt b ty rest d*R)) (hok:d.Ok) :
  Calls Tryz.prog 91 #[.pointer (some ⟨b,0,none⟩),.int .i64 x,.int .i64 n] w (Post w R (.int .i64 (d.cut x n).2) (plt b ty rest (d.cut x n).1)):=by
 obtain ⟨F,hF,hn⟩:=h.open
 exact (pcut_any b ty rest d F x n w hF hok).mono fun e w' hp=>Holds.platePost hn hp
theorem plt_bl {b:Nat} {ty:TypeId} {rest:List Value} {d:Dsk} {w:World} {R:HP} (h:Holds w (plt b ty rest d*R)):∃ v,BlockAt w b ty (.int .i64 d.ep::v::rest)∧BytesAt w v d.b:=by
 obtain ⟨F,hF⟩:=h.left
 obtain ⟨_,v,hb,hv,_⟩:=hF
 exact ⟨v,hb,hv.bytes⟩
theorem plt_set {b:Nat} {ty:TypeId} {rest:List Value} {d:Dsk} {w:World} {R:HP} (h:Holds w (plt b ty rest d*R)) (o:Nat) (u:Value) (ho:o<rest.length):Holds (w.setCell ⟨b,2+o,none⟩ u) (plt b ty (rest.set o u) d*R):=by
 obtain ⟨F,⟨ht,v,hb,hv,rfl⟩,hn⟩:=h.open
 have hset:=hb.set (2+o) u
 rw [show (Value.int .i64 d.ep::v::rest).set (2+o) u=.int .i64 d.ep::v::rest.set o u by rw [Nat.add_comm 2 o];rfl] at hset
 exact hn _ _ (plt b ty (rest.set o u) d) ⟨ht,v,hset,hv.upd (Upd.setCell (F:=fun k=>k=b) (Upd.refl _ _) (.inl rfl) _) (hv.ne hb ht),rfl⟩ (Upd.setCell (Upd.refl _ _) (.inl (.inl rfl)) _) (From.refl _ _)
def gcl (bp:Nat) (n:Nod):List Value:=tcells n.t++[.pointer (some ⟨bp,0,none⟩),.int .i64 n.ep,.bool n.down]
def vrg (bv bp:Nat) (n:Nod):HP:=bl bv 99 (gcl bp n)
theorem gcl_len (bp:Nat) (n:Nod):(gcl bp n).length=28:=by simp [gcl,tcells_len]
theorem gcl_p (bp:Nat) (n:Nod):(gcl bp n)[25]? = some (.pointer (some ⟨bp,0,none⟩)):=rfl
theorem gcl_ep (bp:Nat) (n:Nod):(gcl bp n)[26]? = some (.int .i64 n.ep):=rfl
theorem gcl_down (bp:Nat) (n:Nod):(gcl bp n)[27]? = some (.bool n.down):=rfl
theorem gcl_setDown (bp:Nat) (n:Nod):(gcl bp n).set 27 (.bool true)=gcl bp ⟨n.t,n.ep,true⟩:=rfl
def lst (A:Nat→Nod→HP):List Nat→List Nod→HP
 | p::ps,n::ns=>A p n*lst A ps ns
 | _,_=>HP.emp
def pvs (ps:List Nat):List Value:=ps.map fun p=>.pointer (some ⟨p,0,none⟩)
end Go.Proofs.YtfihmpkkpgmdhaaGreatDoor
namespace Go.Proofs.YtfihmpkkpgmdhaaGreatDoor
open Go.RowKit
theorem untilE_grow {e:Int}:∀ {l:List Rec} {k:Nat},(∀ j r,j<k→l[j]? = some r→r.ep≤e)→(k=l.length∨∃ r,l[k]? = some r∧e<r.ep)→untilE e l=l.take k
 | [],k,_,_=>by simp [untilE]
 | r::l,0,_,h=>by
  rcases h with h|⟨q,hq,he⟩
  ·simp at h
  ·simp at hq;subst hq
   simp [untilE,he]
 | r::l,k+1,h1,h2=>by
  have h0:=h1 0 r (by omega) (by simp)
  unfold untilE
  rw [if_neg (by omega),List.take_succ_cons]
  congr 1
  refine untilE_grow (fun j q hj hq=>h1 (j+1) q (by omega) (by simpa using hq)) ?_
  rcases h2 with h2|⟨q,hq,he⟩
  ·left;simpa using h2
  ·right;exact ⟨q,by simpa using hq,he⟩
theorem until_any (a:Option Addr) (cc:Nat) (l:List Rec) (e:Int) (w:World) (h:RowAt w (.slice a l.length cc) l.length (rvs l)) (hl:l.length≤100000) :
  Calls Tryz.prog 90 #[.slice a l.length cc,.int .i64 e] w fun x w'=>w=w'∧x=.returned (.slice a (untilE e l).length cc)∧untilE e l=l.take (untilE e l).length:=by
 obtain ⟨a',c',e',c1,c2⟩:=h.shape
 simp only [Value.slice.injEq,true_and] at e'
 obtain ⟨rfl,rfl⟩:=e'
 have HV:=Lib.hid h;clear h
 go_enter Tryz.func90,Tryz.ntmps90
 go_wp2_with fail
 go_loopw [5] (fun i wr=>∃ k:Nat,k≤l.length∧i=.int .i64 k∧w=wr∧Hid (∀ j r,j<k→l[j]? = some r→r.ep≤e)) (fun i _=>l.length-(intOf i).toNat)
 case atStart=>exact ⟨0,by omega,rfl,rfl,Lib.hid (fun j r hj=>by omega)⟩
 case round=>
  obtain ⟨k,hk,rfl,rfl,hall⟩:=hrel
  by_cases hlt:k<l.length
  ·obtain ⟨r,hr⟩:∃ r,l[k]? = some r:=⟨_,List.getElem?_eq_getElem hlt⟩
   obtain ⟨g,off,cx,e',_,_,hc0⟩:=HV.out.get (by omega)
   simp only [Value.slice.injEq] at e'
   obtain ⟨rfl,_,rfl⟩:=e'
   have y0:=rvs_cell hc0 hr 0 _ (by omega) rfl
   rw [Nat.add_zero] at y0
   by_cases hre:e<r.ep
   ·have hu:=untilE_grow hall.out (.inr ⟨r,hr,hre⟩)
    have hlen:(untilE e l).length=k:=by rw [hu,List.length_take];omega
    have HU:=Lib.hid hu;have HL:=Lib.hid hlen
    have hkc:k≤cc:=by omega
    clear hu hlen hr hc0
    go_wp2
    go_ret
    rw [HL.out]
    exact ⟨rfl,rfl,HU.out⟩
   ·have hall':Hid (∀ j r,j<k+1→l[j]? = some r→r.ep≤e):=Lib.hid fun j q hj hq=>by
     by_cases hjk:j=k
     ·subst hjk;rw [hr] at hq;injection hq with hq;subst hq;omega
     ·exact hall.out j q (by omega) hq
    have hre2:r.ep≤e:=by omega
    clear hr hc0
    go_wp2_with fail
    go_roundw
    case rel=>exact ⟨k+1,by omega,by go_num,by first|rfl|trivial,hall'⟩
    case measure=>simp [intOf];omega
  ·obtain rfl:k=l.length:=by omega
   have hu:=untilE_grow hall.out (.inl rfl)
   rw [List.take_length] at hu
   have HU:=Lib.hid hu
   clear hu
   go_wp2
   go_ret
   rw [HU.out]
   exact ⟨rfl,rfl,(List.take_length).symm⟩
theorem popened_full (b:Nat) (ty:TypeId) (rest:List Value) (d:Dsk) (w:World) {R:HP} (h:Holds w (plt b ty rest d*R)) (hd:d.Ok) (hc:100≤d.ep) :
  Calls Tryz.prog 61 #[.pointer (some ⟨b,0,none⟩)] w (Post w R (.tuple #[.pointer none,.int .i64 8]) (plt b ty rest d)):=by
 have e:d.raise=(d,0,8):=by simp [Dsk.raise,hc]
 obtain ⟨v,hb,_⟩:=plt_bl h
 have c0:=hb.cell 0 _ rfl
 have HE:=Lib.hid e;have H:=Lib.hid h;have HD:=Lib.hid hd
 clear e h hd hc hb
 go_enter Tryz.func61,Tryz.ntmps61
 go_wp2_with fail
 refine (praise_sl b ty rest d _ H.out HD.out).mono ?_
 rw [HE.out]
 rintro e w1 ⟨rfl,q1,h1⟩
 have H1:=Lib.hid h1;have Q1:=Lib.hid q1;clear h1 q1 c0
 go_wp2
 go_ret2
 exact ⟨rfl,Q1.out,H1.out⟩
theorem popened_sl (b:Nat) (ty:TypeId) (rest:List Value) (d:Dsk) (w:World) {R:HP} (h:Holds w (plt b ty rest d*R)) (hd:d.Ok) (hc:¬ 100≤d.ep) :
  Calls Tryz.prog 61 #[.pointer (some ⟨b,0,none⟩)] w (PostX w (plt b ty rest (opened d).1*R) (fun bv:Nat=>.tuple #[.pointer (some ⟨bv,0,none⟩),.int .i64 0]) fun bv=>vrg bv b ⟨behind (found d),d.ep+1,false⟩):=by
 obtain ⟨ep,B⟩:=d
 have e:(⟨ep,B⟩:Dsk).raise=(⟨ep+1,B⟩,ep+1,0):=by simp [Dsk.raise];dsimp only at hc;omega
 have hep:=hd.ep
 have hB:=hd.b
 dsimp only at hep hB hc
 have hd1:(⟨ep+1,B⟩:Dsk).Ok:=⟨by dsimp only;omega,hB⟩
 obtain ⟨L,hL⟩:∃ L,allB B=L:=⟨_,rfl⟩
 have hLl:9*L.length≤B.length:=by rw [←hL];exact allB_len B
 obtain ⟨F,hF⟩:∃ F,untilE ep L=F:=⟨_,rfl⟩
 obtain ⟨d9,hd9⟩:∃ d9,(opened ⟨ep,B⟩).1=d9:=⟨_,rfl⟩
 have hF2:found ⟨ep,B⟩=F:=by unfold found;rw [hL,hF]
 rw [hF2,hd9]
 obtain ⟨T,hT⟩:∃ T,behind F=T:=⟨_,rfl⟩
 rw [hT]
 have HT:=Lib.hid hT
 clear hT
 have hd92:d9=⟨ep+1,B.take (9*F.length)⟩:=by rw [←hd9,opened,if_neg (by dsimp only;exact hc),hF2]
 have hFl:F.length≤L.length:=by rw [←hF];obtain ⟨m,hm⟩:=untilE_prefix ep L;have:=congrArg List.length hm;rw [List.length_append] at this;omega
 have hcut:(⟨ep+1,B⟩:Dsk).cut (ep+1) (9*(F.length:Int))=(d9,0):=by
  rw [Dsk.cut,if_neg (by dsimp only;omega),if_neg (by dsimp only;omega),hd92]
  congr 3
 obtain ⟨v,hb,_⟩:=plt_bl h
 have c0:=hb.cell 0 _ rfl
 dsimp only at c0
 have hFs:F.length≤200:=by omega
 have HE:=Lib.hid e;have H:=Lib.hid h;have HD:=Lib.hid hd;have HD1:=Lib.hid hd1;have HL:=Lib.hid hL;have HLL:=Lib.hid hLl;have HF:=Lib.hid hF;have HB:=Lib.hid hB;have HCUT:=Lib.hid hcut;have HFL:=Lib.hid hFl
 clear e h hd hd1 hL hLl hF hd92 hF2 hd9 hB hb hcut hFl
 dsimp only
 go_enter Tryz.func61,Tryz.ntmps61
 go_wp2_with fail
 refine (praise_sl b ty rest ⟨ep,B⟩ _ H.out HD.out).mono ?_
 rw [HE.out]
 rintro e w1 ⟨rfl,q1,h1⟩
 obtain ⟨v1,hb1,hv1⟩:=plt_bl h1
 obtain ⟨a1,cv,rfl,-,-⟩:=hv1.shape
 have c1:=hb1.cell 1 _ rfl
 dsimp only at hv1 c1
 have H1:=Lib.hid h1;have Q1:=Lib.hid q1;have HV1:=Lib.hid hv1;clear h1 q1 c0 hb1 hv1
 go_wp2_with fail
 refine (recsof_sl _ B _ HV1.out (by have:=HB.out;omega) H1.out).mono ?_
 rintro e w3 ⟨v3,rfl,q3,h3⟩
 rw [HL.out] at h3
 have hrow:=h3.row
 obtain ⟨a,cc,rfl,k1,k2⟩:=hrow.shape
 have H3:=Lib.hid (show Holds w3 (recs (.slice a L.length cc) L*(plt b ty rest ⟨ep+1,B⟩*R)) from h3);have Q3:=Lib.hid (Q1.out.trans q3)
 have HROW:=Lib.hid hrow
 clear h3 q3 hrow c1
 have hl1:L.length≤200:=by have:=HLL.out;have:=HB.out;omega
 go_wp2_with fail
 refine (until_any a cc L ep _ HROW.out (by omega)).mono ?_
 rw [HF.out]
 rintro e w4 ⟨rfl,rfl,hu⟩
 have HU:=Lib.hid hu;clear hu
 go_wp2_with fail
 refine (pcut_sl b ty rest ⟨ep+1,B⟩ (ep+1) (9*(F.length:Int)) _ H3.out.two HD1.out).mono ?_
 rw [HCUT.out]
 rintro e w5 ⟨rfl,q5,h5⟩
 have H5:=Lib.hid h5;have Q5:=Lib.hid (Q3.out.trans q5);clear h5 q5
 have hrow5:=recs_take (H5.out.two.row) HFL.out
 rw [←HU.out] at hrow5
 have HROW5:=Lib.hid hrow5;clear hrow5
 go_wp2_with fail
 refine (behind_sl _ F _ HROW5.out (by omega) H5.out).mono ?_
 rintro e w6 ⟨bb,rfl,q6,h6⟩
 rw [HT.out] at h6
 have H6:=Lib.hid (show Holds w6 (tb bb 96 T*(plt b ty rest d9*(recs (.slice a L.length cc) L*R))) from h6);have Q6:=Lib.hid (Q5.out.trans q6);clear h6 q6
 go_wp2_with (first|(refine wpList_load_whole rfl 96 _ rfl bb rfl (tcells T) (H6.out.tb) Tryz.underlying96 rfl (by kernel_rfl) ?_)|(refine wpList_built rfl 99 _ rfl (gcl b ⟨T,ep+1,false⟩) (by kernel_rfl) ?_))
 go_ret2
 exact ⟨_,rfl,Q6.out.alloc _,((H6.out.boxB (ty:=99) (cs:=gcl b ⟨T,ep+1,false⟩) rfl).eq (by unfold vrg;ac_rfl:_=tb bb 96 T*(recs (.slice a L.length cc) L*(vrg w6.heap.size b ⟨T,ep+1,false⟩*(plt b ty rest d9*R))))).right.right⟩
end Go.Proofs.YtfihmpkkpgmdhaaGreatDoor
namespace Go.Proofs.YtfihmpkkpgmdhaaGreatDoor
open Go.RowKit
def VPost (w:World) (bv bp:Nat) (ty:TypeId) (rest:List Value) (R:HP) (x:Dsk×Nod×Ans) (e:Ending) (w':World):Prop:=
 e=.returned x.2.2.val∧Quiet w w'∧Holds w' (vrg bv bp x.2.1*(plt bp ty rest x.1*R))
theorem vord_down (bv bp:Nat) (ty:TypeId) (rest:List Value) (d:Dsk) (t:Tbl) (ep c nw j r k m kp:Int) (w:World) {R:HP} (h:Holds w (vrg bv bp ⟨t,ep,true⟩*(plt bp ty rest d*R))) :
  Calls Tryz.prog 62 #[.pointer (some ⟨bv,0,none⟩),.agg #[.int .i64 c,.int .i64 nw,.int .i64 j,.int .i64 r,.int .i64 k,.int .i64 m],.int .i64 kp] w (VPost w bv bp ty rest R (d,⟨t,ep,true⟩,⟨10,0,0⟩)):=by
 obtain ⟨w0,hw0,H0,Q0⟩:∃ w0,(w.alloc (.cells #[.int .i64 c,.int .i64 nw,.int .i64 j,.int .i64 r,.int .i64 k,.int .i64 m] 84)).alloc (.cells #[.int .i64 0,.int .i64 0,.int .i64 0] 88)=w0∧Hid (Holds w0 (bl (w.heap.size+1) 88 [.int .i64 0,.int .i64 0,.int .i64 0]*(bl w.heap.size 84 [.int .i64 c,.int .i64 nw,.int .i64 j,.int .i64 r,.int .i64 k,.int .i64 m]*(vrg bv bp ⟨t,ep,true⟩*(plt bp ty rest d*R)))))∧Hid (Quiet w w0):=
  ⟨_,rfl,Lib.hid ((h.boxB (ty:=84) (cs:=[.int .i64 c,.int .i64 nw,.int .i64 j,.int .i64 r,.int .i64 k,.int .i64 m]) rfl).boxB (ty:=88) (cs:=[.int .i64 0,.int .i64 0,.int .i64 0]) (g:=w.heap.size+1) (by simp)),Lib.hid (((Quiet.refl w).alloc _).alloc _)⟩
 clear h
 obtain ⟨g0,hg0⟩:∃ g0,w.heap.size=g0:=⟨_,rfl⟩
 rw [hg0] at H0
 obtain ⟨ga,hga⟩:∃ ga,g0+1=ga:=⟨_,rfl⟩
 rw [hga] at H0
 have hV:BlockAt w0 bv 99 (gcl bp ⟨t,ep,true⟩):=H0.out.three.bl
 have v25:=hV.cell 25 _ (gcl_p bp ⟨t,ep,true⟩)
 have v26:=hV.cell 26 _ (gcl_ep bp ⟨t,ep,true⟩)
 have v27:=hV.cell 27 _ (gcl_down bp ⟨t,ep,true⟩)
 dsimp only at v25 v26 v27
 have ca:=H0.out.bl.cells
 have fa:=H0.out.bl.frees
 have la:=H0.out.bl.lt
 clear hV
 go_enter Tryz.func62,Tryz.ntmps62
 go_wp2
 have hf:=((H0.out.setB 0 (.int .i64 10)).setB 1 (.int .i64 0)).setB 2 (.int .i64 0)
 have hl:=run_load_part (P:=Tryz.prog) (off:=0) (ty:=88) (vs:=[.int .i64 10,.int .i64 0,.int .i64 0]) hf.bl rfl Tryz.underlying88 rfl (by kernel_rfl)
 exact bodyPost_ret (results_cell1 rfl rfl hl) rfl ⟨rfl,((Q0.out.setCell _ _).setCell _ _).setCell _ _,hf.right.right⟩
theorem vord_fenced (bv bp:Nat) (ty:TypeId) (rest:List Value) (d:Dsk) (t:Tbl) (ep c nw j r k m kp:Int) (w:World) {R:HP} (h:Holds w (vrg bv bp ⟨t,ep,false⟩*(plt bp ty rest d*R))) (hne:ep≠d.ep) :
  Calls Tryz.prog 62 #[.pointer (some ⟨bv,0,none⟩),.agg #[.int .i64 c,.int .i64 nw,.int .i64 j,.int .i64 r,.int .i64 k,.int .i64 m],.int .i64 kp] w (VPost w bv bp ty rest R (d,⟨t,ep,true⟩,⟨9,0,0⟩)):=by
 have hne1:(d.ep != ep)=true:=by simpa using fun e=>hne e.symm
 clear hne
 obtain ⟨w0,hw0,H0,Q0⟩:∃ w0,(w.alloc (.cells #[.int .i64 c,.int .i64 nw,.int .i64 j,.int .i64 r,.int .i64 k,.int .i64 m] 84)).alloc (.cells #[.int .i64 0,.int .i64 0,.int .i64 0] 88)=w0∧Hid (Holds w0 (bl (w.heap.size+1) 88 [.int .i64 0,.int .i64 0,.int .i64 0]*(bl w.heap.size 84 [.int .i64 c,.int .i64 nw,.int .i64 j,.int .i64 r,.int .i64 k,.int .i64 m]*(vrg bv bp ⟨t,ep,false⟩*(plt bp ty rest d*R)))))∧Hid (Quiet w w0):=
  ⟨_,rfl,Lib.hid ((h.boxB (ty:=84) (cs:=[.int .i64 c,.int .i64 nw,.int .i64 j,.int .i64 r,.int .i64 k,.int .i64 m]) rfl).boxB (ty:=88) (cs:=[.int .i64 0,.int .i64 0,.int .i64 0]) (g:=w.heap.size+1) (by simp)),Lib.hid (((Quiet.refl w).alloc _).alloc _)⟩
 clear h
 obtain ⟨g0,hg0⟩:∃ g0,w.heap.size=g0:=⟨_,rfl⟩
 rw [hg0] at H0
 obtain ⟨ga,hga⟩:∃ ga,g0+1=ga:=⟨_,rfl⟩
 rw [hga] at H0
 have hV:BlockAt w0 bv 99 (gcl bp ⟨t,ep,false⟩):=H0.out.three.bl
 have v25:=hV.cell 25 _ (gcl_p bp ⟨t,ep,false⟩)
 have v26:=hV.cell 26 _ (gcl_ep bp ⟨t,ep,false⟩)
 have v27:=hV.cell 27 _ (gcl_down bp ⟨t,ep,false⟩)
 dsimp only at v25 v26 v27
 obtain ⟨pv,hP,_⟩:=plt_bl (H0.out.four)
 have p0:=hP.cell 0 _ rfl
 have HPC:=Lib.hid (And.intro v25 (And.intro v26 p0))
 clear hV hP
 go_enter Tryz.func62,Tryz.ntmps62
 go_wp2_with fail
 clear hw0 hg0 hga
 refine wp_region_lex (fun W=>W.cell? ⟨bv,25,none⟩=some (.pointer (some ⟨bp,0,none⟩))∧W.cell? ⟨bv,26,none⟩=some (.int .i64 ep)∧W.cell? ⟨bp,0,none⟩=some (.int .i64 d.ep)) [] (by kernel_rfl) (by kernel_rfl) HPC.out ?_
 repeat (first|(refine LexL.none (by rfl) ?_;(try simp only [Act.put,List.setIfInBounds_toArray,List.set_cons_zero,List.set_cons_succ]))|(refine LexL.still (v:=?_) (by rfl) ?_ ?_;rotate_left;(focus (intro W hW;(try dsimp only at hW);go_simp;(try (with_reducible rfl));done));(try simp only [Act.put,List.setIfInBounds_toArray,List.set_cons_zero,List.set_cons_succ])))
 refine LexL.done ?_
 have hd1:=H0.out.drew
 have qd1:=Q0.out.drew
 obtain ⟨w1,hw1⟩:∃ w1,w0.drew=w1:=⟨_,rfl⟩
 rw [hw1] at hd1 qd1 ⊢
 have H1:=Lib.hid hd1;have Q1:=Lib.hid qd1
 clear hw1 hd1 qd1 v25 v26 v27 p0 HPC H0 Q0
 have hV:BlockAt w1 bv 99 (gcl bp ⟨t,ep,false⟩):=H1.out.three.bl
 have v27:=hV.cell 27 _ (gcl_down bp ⟨t,ep,false⟩)
 have fv:=hV.frees
 have lv:=hV.lt
 have ca:=H1.out.bl.cells
 have fa:=H1.out.bl.frees
 have la:=H1.out.bl.lt
 clear hV
 go_wp2
 have hf:=(((H1.out.three.setB 27 (.bool true)).two.setB 0 (.int .i64 9)).setB 1 (.int .i64 0)).setB 2 (.int .i64 0)
 have hl:=run_load_part (P:=Tryz.prog) (off:=0) (ty:=88) (vs:=[.int .i64 9,.int .i64 0,.int .i64 0]) hf.bl rfl Tryz.underlying88 rfl (by kernel_rfl)
 exact bodyPost_ret (results_cell1 rfl rfl hl) rfl ⟨rfl,(((Q1.out.setCell _ _).setCell _ _).setCell _ _).setCell _ _,hf.right.two.right⟩
end Go.Proofs.YtfihmpkkpgmdhaaGreatDoor
namespace Go.Proofs.YtfihmpkkpgmdhaaGreatDoor
open Go.RowKit
theorem Holds.bl' {w:World} {b:Nat} {ty:TypeId} {cs:List Value} (h:Holds w (Go.Proofs.YtfihmpkkpgmdhaaGreatDoor.bl b ty cs)):BlockAt w b ty cs:=by
 obtain ⟨F,hF⟩:=h
 exact (Holds.bl (A:=HP.emp) (h:=(⟨F,F,fun _=>False,fun _ _ h=>h,fun k=>by simp,hF,fun _ h=>h⟩:Holds w (Go.Proofs.YtfihmpkkpgmdhaaGreatDoor.bl b ty cs*HP.emp))))
theorem vord_refused (bv bp:Nat) (ty:TypeId) (rest:List Value) (d:Dsk) (t:Tbl) (ep c nw j r k m kp:Int) (w:World) {R:HP} (h:Holds w (vrg bv bp ⟨t,ep,false⟩*(plt bp ty rest d*R))) (hok:t.Ok) (he:ep=d.ep) (hcd:(t.did ⟨c,nw,j,r,k,m⟩).2.code≠0) :
  Calls Tryz.prog 62 #[.pointer (some ⟨bv,0,none⟩),.agg #[.int .i64 c,.int .i64 nw,.int .i64 j,.int .i64 r,.int .i64 k,.int .i64 m],.int .i64 kp] w (VPost w bv bp ty rest R (d,⟨t,ep,false⟩,(t.did ⟨c,nw,j,r,k,m⟩).2)):=by
 have hdid:=fun W=>bdid_any t c nw j r k m W hok
 obtain ⟨⟨T',⟨a1,a2,a3⟩⟩,hX⟩:∃ X,t.did ⟨c,nw,j,r,k,m⟩=X:=⟨_,rfl⟩
 rw [hX] at hcd hdid ⊢
 dsimp only at hcd
 have hcd1:(a1 != 0)=true:=by simpa using hcd
 have hee:(d.ep != ep)=false:=by simpa using he.symm
 have HD:=Lib.hid hdid
 clear hX hok hcd he hdid
 obtain ⟨w0,hw0,H0,Q0⟩:∃ w0,(w.alloc (.cells #[.int .i64 c,.int .i64 nw,.int .i64 j,.int .i64 r,.int .i64 k,.int .i64 m] 84)).alloc (.cells #[.int .i64 0,.int .i64 0,.int .i64 0] 88)=w0∧Hid (Holds w0 (bl (w.heap.size+1) 88 [.int .i64 0,.int .i64 0,.int .i64 0]*(bl w.heap.size 84 [.int .i64 c,.int .i64 nw,.int .i64 j,.int .i64 r,.int .i64 k,.int .i64 m]*(vrg bv bp ⟨t,ep,false⟩*(plt bp ty rest d*R)))))∧Hid (Quiet w w0):=
  ⟨_,rfl,Lib.hid ((h.boxB (ty:=84) (cs:=[.int .i64 c,.int .i64 nw,.int .i64 j,.int .i64 r,.int .i64 k,.int .i64 m]) rfl).boxB (ty:=88) (cs:=[.int .i64 0,.int .i64 0,.int .i64 0]) (g:=w.heap.size+1) (by simp)),Lib.hid (((Quiet.refl w).alloc _).alloc _)⟩
 clear h
 obtain ⟨g0,hg0⟩:∃ g0,w.heap.size=g0:=⟨_,rfl⟩
 rw [hg0] at H0
 obtain ⟨ga,hga⟩:∃ ga,g0+1=ga:=⟨_,rfl⟩
 rw [hga] at H0
 have hV:BlockAt w0 bv 99 (gcl bp ⟨t,ep,false⟩):=H0.out.three.bl
 have v25:=hV.cell 25 _ (gcl_p bp ⟨t,ep,false⟩)
 have v26:=hV.cell 26 _ (gcl_ep bp ⟨t,ep,false⟩)
 have v27:=hV.cell 27 _ (gcl_down bp ⟨t,ep,false⟩)
 dsimp only at v25 v26 v27
 obtain ⟨pv,hP,_⟩:=plt_bl (H0.out.four)
 have p0:=hP.cell 0 _ rfl
 have HPC:=Lib.hid (And.intro v25 (And.intro v26 p0))
 have HV0:=Lib.hid hV
 clear hV hP
 go_enter Tryz.func62,Tryz.ntmps62
 go_wp2_with fail
 clear hw0 hg0 hga
 refine wp_region_lex (fun W=>W.cell? ⟨bv,25,none⟩=some (.pointer (some ⟨bp,0,none⟩))∧W.cell? ⟨bv,26,none⟩=some (.int .i64 ep)∧W.cell? ⟨bp,0,none⟩=some (.int .i64 d.ep)) [] (by kernel_rfl) (by kernel_rfl) HPC.out ?_
 repeat (first|(refine LexL.none (by rfl) ?_;(try simp only [Act.put,List.setIfInBounds_toArray,List.set_cons_zero,List.set_cons_succ]))|(refine LexL.still (v:=?_) (by rfl) ?_ ?_;rotate_left;(focus (intro W hW;(try dsimp only at hW);go_simp;(try (with_reducible rfl));done));(try simp only [Act.put,List.setIfInBounds_toArray,List.set_cons_zero,List.set_cons_succ])))
 refine LexL.done ?_
 go_wp2_with fail
 refine wp_region_lexH (fun W=>BlockAt W bv 99 (gcl bp ⟨t,ep,false⟩)∧BlockAt W g0 84 [.int .i64 c,.int .i64 nw,.int .i64 j,.int .i64 r,.int .i64 k,.int .i64 m]) [5,11,12] [9,10] (fz2 9 96 (tcells Tbl.zero) 10 88 [.int .i64 0,.int .i64 0,.int .i64 0]) _ (by kernel_rfl) (by kernel_rfl) (by kernel_rfl) fz2_fl fz2_no (fz2_ok rfl ⟨rfl,fun a w=>by kernel_rfl⟩ rfl ⟨rfl,fun a w=>by kernel_rfl⟩) (fun W o h=>⟨h.1.alloc o,h.2.alloc o⟩) ⟨H0.out.drew.drew.three.bl,H0.out.drew.drew.two.bl⟩ H0.out.drew.drew ?_
 repeat (first|(refine LexHL.still (v:=?_) (by rfl) (by rfl) ?_ ?_;rotate_left;(focus (intro W hW;(try dsimp only at hW);go_simp;(try (with_reducible rfl));done));(try simp only [Act.put,List.setIfInBounds_toArray,List.set_cons_zero,List.set_cons_succ])))
 refine LexHL.load 96 (.tmp 35) rfl bv 0 rfl (tcells t) (fun W h=>h.1) rfl Tryz.underlying96 rfl (by kernel_rfl) rfl rfl ?_
 try simp only [Act.put,List.setIfInBounds_toArray,List.set_cons_zero,List.set_cons_succ]
 refine LexHL.load 84 (.tmp 4) rfl g0 0 rfl [.int .i64 c,.int .i64 nw,.int .i64 j,.int .i64 r,.int .i64 k,.int .i64 m] (fun W h=>h.2) (by simp) Tryz.underlying84 rfl (by kernel_rfl) rfl rfl ?_
 try simp only [Act.put,List.setIfInBounds_toArray,List.set_cons_zero,List.set_cons_succ]
 refine LexHL.call (f:=93) (args:=#[.agg (tcells t).toArray,.agg #[.int .i64 c,.int .i64 nw,.int .i64 j,.int .i64 r,.int .i64 k,.int .i64 m]]) rfl rfl (by decide) (fun W _=>by go_simp) ?_
 intro W R1 hS hq hA
 refine (HD.out W).mono ?_
 rintro e w2 ⟨rfl,hb2⟩
 have hA2:=hA.below hb2
 refine ⟨_,rfl,⟨hS.1.below hb2 hS.1.lt,hS.2.below hb2 hS.2.lt⟩,hq.trans (Quiet.below hb2),_,hA2,?_⟩
 clear hS hq hA hb2 hA2
 dsimp only
 repeat (first|(refine LexHL.still (v:=?_) (by rfl) (by rfl) ?_ ?_;rotate_left;(focus (intro W hW;(try dsimp only at hW);go_simp;(try (with_reducible rfl));done));(try simp only [Act.put,List.setIfInBounds_toArray,List.set_cons_zero,List.set_cons_succ])))
 refine LexHL.made rfl ?_
 intro q1 hlv
 clear hlv
 try simp only [Act.put,List.setIfInBounds_toArray,List.set_cons_zero,List.set_cons_succ]
 refine LexHL.made rfl ?_
 intro q2 hlv
 clear hlv
 try simp only [Act.put,List.setIfInBounds_toArray,List.set_cons_zero,List.set_cons_succ]
 refine LexHL.storeB (q:=q1) (t:=96) (cs:=tcells Tbl.zero) (B:=bl q2 88 [.int .i64 0,.int .i64 0,.int .i64 0]*(bl ga 88 [.int .i64 0,.int .i64 0,.int .i64 0]*(bl g0 84 [.int .i64 c,.int .i64 nw,.int .i64 j,.int .i64 r,.int .i64 k,.int .i64 m]*(vrg bv bp ⟨t,ep,false⟩*(plt bp ty rest d*R))))) 96 _ _ rfl (tcells T') rfl rfl (by simp [tcells_len]) (by kernel_rfl) (tcells_ones T') rfl rfl (by decide) (by ac_rfl) (fun W R2 h=>⟨h.left.right.right.right.right.left.bl',h.left.right.right.right.left.bl'⟩) ?_
 try simp only [Act.put,List.setIfInBounds_toArray,List.set_cons_zero,List.set_cons_succ]
 refine LexHL.storeB (q:=q2) (t:=88) (cs:=[.int .i64 0,.int .i64 0,.int .i64 0]) (B:=bl q1 96 (tcells T')*(bl ga 88 [.int .i64 0,.int .i64 0,.int .i64 0]*(bl g0 84 [.int .i64 c,.int .i64 nw,.int .i64 j,.int .i64 r,.int .i64 k,.int .i64 m]*(vrg bv bp ⟨t,ep,false⟩*(plt bp ty rest d*R))))) 88 _ _ rfl [.int .i64 a1,.int .i64 a2,.int .i64 a3] rfl rfl rfl (by kernel_rfl) (by simp [Ones,Value.oneCell']) rfl rfl (by decide) (by ac_rfl) (fun W R2 h=>⟨h.left.right.right.right.right.left.bl',h.left.right.right.right.left.bl'⟩) ?_
 try simp only [Act.put,List.setIfInBounds_toArray,List.set_cons_zero,List.set_cons_succ]
 refine LexHL.done ?_
 intro W6 hS hA hq
 have H6:=Lib.hid (hA.eq (by ac_rfl:_=bl q2 88 [.int .i64 a1,.int .i64 a2,.int .i64 a3]*(bl ga 88 [.int .i64 0,.int .i64 0,.int .i64 0]*(bl q1 96 (tcells T')*(bl g0 84 [.int .i64 c,.int .i64 nw,.int .i64 j,.int .i64 r,.int .i64 k,.int .i64 m]*(vrg bv bp ⟨t,ep,false⟩*(plt bp ty rest d*R)))))))
 have Q6:=Lib.hid (Q0.out.drew.drew.trans hq)
 clear hS hA hq v25 v26 v27 p0 HPC H0 Q0 HD HV0
 have cx:=H6.out.bl.cells
 have ca:=H6.out.two.bl.cells
 have fa:=H6.out.two.bl.frees
 have la:=H6.out.two.bl.lt
 go_wp2
 have hf:=((H6.out.two.setB 0 (.int .i64 a1)).setB 1 (.int .i64 a2)).setB 2 (.int .i64 a3)
 have hl:=run_load_part (P:=Tryz.prog) (off:=0) (ty:=88) (vs:=[.int .i64 a1,.int .i64 a2,.int .i64 a3]) hf.bl rfl Tryz.underlying88 rfl (by kernel_rfl)
 exact bodyPost_ret (results_cell1 rfl rfl hl) rfl ⟨rfl,((Q6.out.setCell _ _).setCell _ _).setCell _ _,hf.right.right.right.right⟩
theorem vord_wrote (bv bp : Nat) (ty : TypeId) (rest : List Value) (d : Dsk) (t : Tbl) (ep c nw j r k m kp : Int) (w : World) {R : HP} (h : Holds w (vrg bv bp ⟨t, ep, false⟩ * (plt bp ty rest d * R))) (hd : d.Ok) (hok : t.Ok) (he : ep = d.ep) (hcd : (t.did ⟨c, nw, j, r, k, m⟩).2.code = 0) (hr : chkR ⟨ep, ⟨c, nw, j, r, k, m⟩⟩ = 0) :
    Calls Tryz.prog 62 #[.pointer (some ⟨bv, 0, none⟩), .agg #[.int .i64 c, .int .i64 nw, .int .i64 j, .int .i64 r, .int .i64 k, .int .i64 m], .int .i64 kp] w (VPost w bv bp ty rest R (if (d.append ep ((encB ⟨ep, ⟨c, nw, j, r, k, m⟩⟩).take (keepN kp))).2 ≠ 0 then (d, ⟨t, ep, false⟩, ⟨(d.append ep ((encB ⟨ep, ⟨c, nw, j, r, k, m⟩⟩).take (keepN kp))).2, 0, 0⟩) else ((d.append ep ((encB ⟨ep, ⟨c, nw, j, r, k, m⟩⟩).take (keepN kp))).1, ⟨(t.did ⟨c, nw, j, r, k, m⟩).1, ep, false⟩, (t.did ⟨c, nw, j, r, k, m⟩).2))) := by
  have hdid := fun W => bdid_any t c nw j r k m W hok
  obtain ⟨⟨T', ⟨a1, a2, a3⟩⟩, hX⟩ : ∃ X, t.did ⟨c, nw, j, r, k, m⟩ = X := ⟨_, rfl⟩
  rw [hX] at hcd hdid ⊢
  dsimp only at hcd
  subst hcd
  have hee : (d.ep != ep) = false := by simpa using he.symm
  obtain ⟨l, hl⟩ : ∃ l, encB ⟨ep, ⟨c, nw, j, r, k, m⟩⟩ = l := ⟨_, rfl⟩
  have hl9 : l.length = 9 := by rw [← hl, encB_len]
  obtain ⟨⟨d', ac⟩, hap⟩ : ∃ Y, d.append ep (l.take (keepN kp)) = Y := ⟨_, rfl⟩
  rw [hl, hap]
  obtain ⟨Y, hY⟩ : ∃ Y, (if (d', ac).2 ≠ 0 then (d, (⟨t, ep, false⟩ : Nod), (⟨(d', ac).2, 0, 0⟩ : Ans)) else ((d', ac).1, ⟨T', ep, false⟩, ⟨0, a2, a3⟩)) = Y := ⟨_, rfl⟩
  rw [hY]
  dsimp only at hY
  have HY := Lib.hid hY; have HD := Lib.hid hdid; have HR := Lib.hid hr; have HL := Lib.hid hl; have HL9 := Lib.hid hl9; have HAP := Lib.hid hap; have HDK := Lib.hid hd
  clear hY hX hok he hr hl hl9 hap hd hdid
  obtain ⟨w0, hw0, H0, Q0⟩ : ∃ w0, (w.alloc (.cells #[.int .i64 c, .int .i64 nw, .int .i64 j, .int .i64 r, .int .i64 k, .int .i64 m] 84)).alloc (.cells #[.int .i64 0, .int .i64 0, .int .i64 0] 88) = w0 ∧ Hid (Holds w0 (bl (w.heap.size + 1) 88 [.int .i64 0, .int .i64 0, .int .i64 0] * (bl w.heap.size 84 [.int .i64 c, .int .i64 nw, .int .i64 j, .int .i64 r, .int .i64 k, .int .i64 m] * (vrg bv bp ⟨t, ep, false⟩ * (plt bp ty rest d * R))))) ∧ Hid (Quiet w w0) :=
    ⟨_, rfl, Lib.hid ((h.boxB (ty := 84) (cs := [.int .i64 c, .int .i64 nw, .int .i64 j, .int .i64 r, .int .i64 k, .int .i64 m]) rfl).boxB (ty := 88) (cs := [.int .i64 0, .int .i64 0, .int .i64 0]) (g := w.heap.size + 1) (by simp)), Lib.hid (((Quiet.refl w).alloc _).alloc _)⟩
  clear h
  obtain ⟨g0, hg0⟩ : ∃ g0, w.heap.size = g0 := ⟨_, rfl⟩
  rw [hg0] at H0
  obtain ⟨ga, hga⟩ : ∃ ga, g0 + 1 = ga := ⟨_, rfl⟩
  rw [hga] at H0
  have hV : BlockAt w0 bv 99 (gcl bp ⟨t, ep, false⟩) := H0.out.three.bl
  have v25 := hV.cell 25 _ (gcl_p bp ⟨t, ep, false⟩)
  have v26 := hV.cell 26 _ (gcl_ep bp ⟨t, ep, false⟩)
  have v27 := hV.cell 27 _ (gcl_down bp ⟨t, ep, false⟩)
  dsimp only at v25 v26 v27
  obtain ⟨pv, hP, _⟩ := plt_bl (H0.out.four)
  have p0 := hP.cell 0 _ rfl
  have HPC := Lib.hid (And.intro v25 (And.intro v26 p0))
  have HV0 := Lib.hid hV
  clear hV hP
  go_enter Tryz.func62, Tryz.ntmps62
  go_wp2_with fail
  clear hw0 hg0 hga
  refine wp_region_lex (fun W => W.cell? ⟨bv, 25, none⟩ = some (.pointer (some ⟨bp, 0, none⟩)) ∧ W.cell? ⟨bv, 26, none⟩ = some (.int .i64 ep) ∧ W.cell? ⟨bp, 0, none⟩ = some (.int .i64 d.ep)) [] (by kernel_rfl) (by kernel_rfl) HPC.out ?_
  repeat (first | (refine LexL.none (by rfl) ?_; (try simp only [Act.put, List.setIfInBounds_toArray, List.set_cons_zero, List.set_cons_succ])) | (refine LexL.still (v := ?_) (by rfl) ?_ ?_; rotate_left; (focus (intro W hW; (try dsimp only at hW); go_simp; (try (with_reducible rfl)); done)); (try simp only [Act.put, List.setIfInBounds_toArray, List.set_cons_zero, List.set_cons_succ])))
  refine LexL.done ?_
  go_wp2_with fail
  refine wp_region_lexH (fun W => BlockAt W bv 99 (gcl bp ⟨t, ep, false⟩) ∧ BlockAt W g0 84 [.int .i64 c, .int .i64 nw, .int .i64 j, .int .i64 r, .int .i64 k, .int .i64 m]) [5, 11, 12] [9, 10] (fz2 9 96 (tcells Tbl.zero) 10 88 [.int .i64 0, .int .i64 0, .int .i64 0]) _ (by kernel_rfl) (by kernel_rfl) (by kernel_rfl) fz2_fl fz2_no (fz2_ok rfl ⟨rfl, fun a w => by kernel_rfl⟩ rfl ⟨rfl, fun a w => by kernel_rfl⟩) (fun W o h => ⟨h.1.alloc o, h.2.alloc o⟩) ⟨H0.out.drew.drew.three.bl, H0.out.drew.drew.two.bl⟩ H0.out.drew.drew ?_
  repeat (first | (refine LexHL.still (v := ?_) (by rfl) (by rfl) ?_ ?_; rotate_left; (focus (intro W hW; (try dsimp only at hW); go_simp; (try (with_reducible rfl)); done)); (try simp only [Act.put, List.setIfInBounds_toArray, List.set_cons_zero, List.set_cons_succ])))
  refine LexHL.load 96 (.tmp 35) rfl bv 0 rfl (tcells t) (fun W h => h.1) rfl Tryz.underlying96 rfl (by kernel_rfl) rfl rfl ?_
  try simp only [Act.put, List.setIfInBounds_toArray, List.set_cons_zero, List.set_cons_succ]
  refine LexHL.load 84 (.tmp 4) rfl g0 0 rfl [.int .i64 c, .int .i64 nw, .int .i64 j, .int .i64 r, .int .i64 k, .int .i64 m] (fun W h => h.2) (by simp) Tryz.underlying84 rfl (by kernel_rfl) rfl rfl ?_
  try simp only [Act.put, List.setIfInBounds_toArray, List.set_cons_zero, List.set_cons_succ]
  refine LexHL.call (f := 93) (args := #[.agg (tcells t).toArray, .agg #[.int .i64 c, .int .i64 nw, .int .i64 j, .int .i64 r, .int .i64 k, .int .i64 m]]) rfl rfl (by decide) (fun W _ => by go_simp) ?_
  intro W R1 hS hq hA
  refine (HD.out W).mono ?_
  rintro e w2 ⟨rfl, hb2⟩
  have hA2 := hA.below hb2
  refine ⟨_, rfl, ⟨hS.1.below hb2 hS.1.lt, hS.2.below hb2 hS.2.lt⟩, hq.trans (Quiet.below hb2), _, hA2, ?_⟩
  clear hS hq hA hb2 hA2
  dsimp only
  repeat (first | (refine LexHL.still (v := ?_) (by rfl) (by rfl) ?_ ?_; rotate_left; (focus (intro W hW; (try dsimp only at hW); go_simp; (try (with_reducible rfl)); done)); (try simp only [Act.put, List.setIfInBounds_toArray, List.set_cons_zero, List.set_cons_succ])))
  refine LexHL.made rfl ?_
  intro q1 hlv
  clear hlv
  try simp only [Act.put, List.setIfInBounds_toArray, List.set_cons_zero, List.set_cons_succ]
  refine LexHL.made rfl ?_
  intro q2 hlv
  clear hlv
  try simp only [Act.put, List.setIfInBounds_toArray, List.set_cons_zero, List.set_cons_succ]
  refine LexHL.storeB (q := q1) (t := 96) (cs := tcells Tbl.zero) (B := bl q2 88 [.int .i64 0, .int .i64 0, .int .i64 0] * (bl ga 88 [.int .i64 0, .int .i64 0, .int .i64 0] * (bl g0 84 [.int .i64 c, .int .i64 nw, .int .i64 j, .int .i64 r, .int .i64 k, .int .i64 m] * (vrg bv bp ⟨t, ep, false⟩ * (plt bp ty rest d * R))))) 96 _ _ rfl (tcells T') rfl rfl (by simp [tcells_len]) (by kernel_rfl) (tcells_ones T') rfl rfl (by decide) (by ac_rfl) (fun W R2 h => ⟨h.left.right.right.right.right.left.bl', h.left.right.right.right.left.bl'⟩) ?_
  try simp only [Act.put, List.setIfInBounds_toArray, List.set_cons_zero, List.set_cons_succ]
  refine LexHL.storeB (q := q2) (t := 88) (cs := [.int .i64 0, .int .i64 0, .int .i64 0]) (B := bl q1 96 (tcells T') * (bl ga 88 [.int .i64 0, .int .i64 0, .int .i64 0] * (bl g0 84 [.int .i64 c, .int .i64 nw, .int .i64 j, .int .i64 r, .int .i64 k, .int .i64 m] * (vrg bv bp ⟨t, ep, false⟩ * (plt bp ty rest d * R))))) 88 _ _ rfl [.int .i64 0, .int .i64 a2, .int .i64 a3] rfl rfl rfl (by kernel_rfl) (by simp [Ones, Value.oneCell']) rfl rfl (by decide) (by ac_rfl) (fun W R2 h => ⟨h.left.right.right.right.right.left.bl', h.left.right.right.right.left.bl'⟩) ?_
  try simp only [Act.put, List.setIfInBounds_toArray, List.set_cons_zero, List.set_cons_succ]
  refine LexHL.done ?_
  intro W6 hS hA hq
  have H6 := Lib.hid (hA.eq (by ac_rfl : _ = bl q2 88 [.int .i64 0, .int .i64 a2, .int .i64 a3] * (bl ga 88 [.int .i64 0, .int .i64 0, .int .i64 0] * (bl q1 96 (tcells T') * (bl g0 84 [.int .i64 c, .int .i64 nw, .int .i64 j, .int .i64 r, .int .i64 k, .int .i64 m] * (vrg bv bp ⟨t, ep, false⟩ * (plt bp ty rest d * R)))))))
  have Q6 := Lib.hid (Q0.out.drew.drew.trans hq)
  clear hS hA hq v25 v26 v27 p0 HPC H0 Q0 HD HV0
  have cx := H6.out.bl.cells
  have hV6 : BlockAt W6 bv 99 (gcl bp ⟨t, ep, false⟩) := H6.out.right.right.right.right.bl
  have co := H6.out.four.bl.cells
  have HS6 := Lib.hid (And.intro (hV6.cell 26 _ (gcl_ep bp ⟨t, ep, false⟩)) co)
  clear hV6 co
  go_wp2_with fail
  refine wp_region_lex (fun W => W.cell? ⟨bv, 26, none⟩ = some (.int .i64 ep) ∧ ∀ o, W.cell? ⟨g0, o, none⟩ = ([.int .i64 c, .int .i64 nw, .int .i64 j, .int .i64 r, .int .i64 k, .int .i64 m] : List Value)[o]?) [6] (by kernel_rfl) (by kernel_rfl) HS6.out ?_
  repeat (first | (refine LexL.none (by rfl) ?_; (try simp only [Act.put, List.setIfInBounds_toArray, List.set_cons_zero, List.set_cons_succ])) | (refine LexL.still (v := ?_) (by rfl) ?_ ?_; rotate_left; (focus (intro W hW; (try dsimp only at hW); go_simp; (try (with_reducible rfl)); done)); (try simp only [Act.put, List.setIfInBounds_toArray, List.set_cons_zero, List.set_cons_succ])))
  refine LexL.call (f := 94) (args := #[.agg #[.int .i64 ep, .int .i64 c, .int .i64 nw, .int .i64 j, .int .i64 r, .int .i64 k, .int .i64 m]]) (w1 := W6.drew) (by rfl) (by decide) (by go_simp) ?_
  refine (bof_sl ep c nw j r k m _ HR.out H6.out.drew).mono ?_
  rw [HL.out]
  rintro e w7 ⟨v, rfl, q7, h7⟩
  obtain ⟨av, cv, rfl, hv1, hv2⟩ := h7.ownb.bytes.shape
  rw [HL9.out] at h7 hv1 ⊢
  have H7 := Lib.hid (show Holds w7 (ownb (.slice av 9 cv) l * (bl q2 88 [.int .i64 0, .int .i64 a2, .int .i64 a3] * (bl ga 88 [.int .i64 0, .int .i64 0, .int .i64 0] * (bl q1 96 (tcells T') * (bl g0 84 [.int .i64 c, .int .i64 nw, .int .i64 j, .int .i64 r, .int .i64 k, .int .i64 m] * (vrg bv bp ⟨t, ep, false⟩ * (plt bp ty rest d * R))))))) from h7); have Q7 := Lib.hid (Q6.out.drew.trans q7)
  have hV7 : BlockAt w7 bv 99 (gcl bp ⟨t, ep, false⟩) := H7.out.right.right.right.right.right.bl
  have HV7 := Lib.hid (And.intro (hV7.cell 25 _ (gcl_p bp ⟨t, ep, false⟩)) (hV7.cell 26 _ (gcl_ep bp ⟨t, ep, false⟩)))
  refine ⟨_, rfl, ⟨hV7.cell 26 _ (gcl_ep bp ⟨t, ep, false⟩), H7.out.right.right.right.right.bl.cells⟩, ?_⟩
  clear h7 q7 cx H6 Q6 HS6 hV7
  try simp only [Act.put, List.setIfInBounds_toArray, List.set_cons_zero, List.set_cons_succ]
  repeat (first | (refine LexL.none (by rfl) ?_; (try simp only [Act.put, List.setIfInBounds_toArray, List.set_cons_zero, List.set_cons_succ])) | (refine LexL.still (v := ?_) (by rfl) ?_ ?_; rotate_left; (focus (intro W hW; (try dsimp only at hW); go_simp; (try (with_reducible rfl)); done)); (try simp only [Act.put, List.setIfInBounds_toArray, List.set_cons_zero, List.set_cons_succ])))
  refine LexL.done ?_
  obtain ⟨av', rfl⟩ : ∃ av', av = some av' := by
    obtain ⟨g, off, c', e, _⟩ := H7.out.ownb.bytes.row.get (by rw [HL9.out]; decide)
    simp only [Value.slice.injEq] at e
    exact ⟨_, e.1⟩
  by_cases h0 : kp < 0
  · have hK : keepN kp = 0 := by unfold keepN; omega
    have hap0 := HAP.out
    rw [hK] at hap0
    have hb0 : decide (kp < 0) = true := by simpa using h0
    have h09 : (0 : Nat) ≤ cv := by omega
    clear hK h0
    go_wp2_with fail
    refine wp_region_lex (fun W => W.cell? ⟨bv, 25, none⟩ = some (.pointer (some ⟨bp, 0, none⟩)) ∧ W.cell? ⟨bv, 26, none⟩ = some (.int .i64 ep)) [9] (by kernel_rfl) (by kernel_rfl) HV7.out ?_
    repeat (first | (refine LexL.none (by rfl) ?_; (try simp only [Act.put, List.setIfInBounds_toArray, List.set_cons_zero, List.set_cons_succ])) | (refine LexL.still (v := ?_) (by rfl) ?_ ?_; rotate_left; (focus (intro W hW; (try dsimp only at hW); go_simp; (try (with_reducible rfl)); done)); (try simp only [Act.put, List.setIfInBounds_toArray, List.set_cons_zero, List.set_cons_succ])))
    refine LexL.call (f := 95) (args := #[.pointer (some ⟨bp, 0, none⟩), .int .i64 ep, .slice (some av') 0 cv]) (w1 := w7.drew) (by rfl) (by decide) (by go_simp) ?_
    refine (pappend_sl bp ty rest d ep _ (l.take 0) _ (H7.out.drew.eq (by ac_rfl : _ = plt bp ty rest d * (ownb (.slice (some av') 9 cv) l * (bl q2 88 [.int .i64 0, .int .i64 a2, .int .i64 a3] * (bl ga 88 [.int .i64 0, .int .i64 0, .int .i64 0] * (bl q1 96 (tcells T') * (bl g0 84 [.int .i64 c, .int .i64 nw, .int .i64 j, .int .i64 r, .int .i64 k, .int .i64 m] * (vrg bv bp ⟨t, ep, false⟩ * R)))))))) HDK.out (H7.out.drew.ownb.bytes.take (by rw [HL9.out]; decide)) (by simp [HL9.out] <;> omega)).mono ?_
    rw [hap0]
    rintro e w8 ⟨rfl, q8, h8⟩
    have H8 := Lib.hid ((show Holds w8 (plt bp ty rest d' * (ownb (.slice (some av') 9 cv) l * (bl q2 88 [.int .i64 0, .int .i64 a2, .int .i64 a3] * (bl ga 88 [.int .i64 0, .int .i64 0, .int .i64 0] * (bl q1 96 (tcells T') * (bl g0 84 [.int .i64 c, .int .i64 nw, .int .i64 j, .int .i64 r, .int .i64 k, .int .i64 m] * (vrg bv bp ⟨t, ep, false⟩ * R))))))) from h8).eq (by ac_rfl : _ = ownb (.slice (some av') 9 cv) l * (bl ga 88 [.int .i64 0, .int .i64 0, .int .i64 0] * (vrg bv bp ⟨t, ep, false⟩ * (bl q2 88 [.int .i64 0, .int .i64 a2, .int .i64 a3] * (bl q1 96 (tcells T') * (bl g0 84 [.int .i64 c, .int .i64 nw, .int .i64 j, .int .i64 r, .int .i64 k, .int .i64 m] * (plt bp ty rest d' * R)))))))).right
    have Q8 := Lib.hid (Q7.out.drew.trans q8)
    have hV8 : BlockAt w8 bv 99 (gcl bp ⟨t, ep, false⟩) := H8.out.two.bl
    refine ⟨_, rfl, ⟨hV8.cell 25 _ (gcl_p bp ⟨t, ep, false⟩), hV8.cell 26 _ (gcl_ep bp ⟨t, ep, false⟩)⟩, ?_⟩
    try simp only [Act.put, List.setIfInBounds_toArray, List.set_cons_zero, List.set_cons_succ]
    repeat (first | (refine LexL.none (by rfl) ?_; (try simp only [Act.put, List.setIfInBounds_toArray, List.set_cons_zero, List.set_cons_succ])) | (refine LexL.still (v := ?_) (by rfl) ?_ ?_; rotate_left; (focus (intro W hW; (try dsimp only at hW); go_simp; (try (with_reducible rfl)); done)); (try simp only [Act.put, List.setIfInBounds_toArray, List.set_cons_zero, List.set_cons_succ])))
    refine LexL.done ?_
    by_cases hac : ac = 0
    · subst hac
      have HY2 := Lib.hid (show (d', (⟨T', ep, false⟩ : Nod), (⟨0, a2, a3⟩ : Ans)) = Y by rw [← HY.out, if_neg (by simp)])
      have ca := H8.out.bl.cells
      clear HY h8 q8
      go_wp2_with (first | (refine wpList_load_whole rfl 96 _ rfl q1 rfl (tcells T') (H8.out.right.right.right.bl) Tryz.underlying96 rfl (by kernel_rfl) ?_) | (refine wpList_store_part rfl 96 _ _ rfl bv 0 (tcells T') rfl rfl hV8 (by rw [gcl_len, tcells_len]; decide) (by kernel_rfl) (tcells_ones T') ?_; intro w9 h1' h2' h3'; have HE := Lib.hid (H8.out.two.grown h2' (show BlockAt w9 bv 99 (gcl bp ⟨T', ep, false⟩) from h1')); have QE := Lib.hid (Q8.out.trans (Quiet.grown h2')); have ca := HE.out.two.bl.cells; have fe := HE.out.two.bl.frees; have le := HE.out.two.bl.lt; have c2 := HE.out.three.bl.cells; clear h1' h2' h3'))
      have hf := (((HE.out.two.setB 0 (.int .i64 0)).setB 1 (.int .i64 a2)).setB 2 (.int .i64 a3))
      have hl := run_load_part (P := Tryz.prog) (off := 0) (ty := 88) (vs := [.int .i64 0, .int .i64 a2, .int .i64 a3]) hf.bl rfl Tryz.underlying88 rfl (by kernel_rfl)
      rw [← HY2.out]
      exact bodyPost_ret (results_cell1 rfl rfl hl) rfl ⟨rfl, ((QE.out.setCell _ _).setCell _ _).setCell _ _, (hf.right.eq (by unfold vrg; ac_rfl : _ = (bl q2 88 [.int .i64 0, .int .i64 a2, .int .i64 a3] * (bl q1 96 (tcells T') * bl g0 84 [.int .i64 c, .int .i64 nw, .int .i64 j, .int .i64 r, .int .i64 k, .int .i64 m])) * (vrg bv bp ⟨T', ep, false⟩ * (plt bp ty rest d' * R)))).right⟩
    · have hacb : (ac != 0) = true := by simpa using hac
      have hde : d' = d := by have := HAP.out; unfold Dsk.append at this; split at this; · simp only [Prod.mk.injEq] at this; exact this.1.symm
                              · split at this
                                · simp only [Prod.mk.injEq] at this; exact this.1.symm
                                · simp only [Prod.mk.injEq] at this; exact absurd this.2.symm hac
      have HDE := Lib.hid hde
      have HY2 := Lib.hid (show (d, (⟨t, ep, false⟩ : Nod), (⟨ac, 0, 0⟩ : Ans)) = Y by rw [← HY.out, if_pos hac])
      have ca := H8.out.bl.cells
      have fa := H8.out.bl.frees
      have la := H8.out.bl.lt
      clear HY hac hde h8 q8 hV8
      go_wp2
      have hf := ((H8.out.setB 0 (.int .i64 ac)).setB 1 (.int .i64 0)).setB 2 (.int .i64 0)
      have hl := run_load_part (P := Tryz.prog) (off := 0) (ty := 88) (vs := [.int .i64 ac, .int .i64 0, .int .i64 0]) hf.bl rfl Tryz.underlying88 rfl (by kernel_rfl)
      rw [← HY2.out]
      exact bodyPost_ret (results_cell1 rfl rfl hl) rfl ⟨rfl, ((Q8.out.setCell _ _).setCell _ _).setCell _ _, by have h9 := hf.right; rw [HDE.out] at h9; exact (h9.eq (by ac_rfl : _ = (bl q2 88 [.int .i64 0, .int .i64 a2, .int .i64 a3] * (bl q1 96 (tcells T') * bl g0 84 [.int .i64 c, .int .i64 nw, .int .i64 j, .int .i64 r, .int .i64 k, .int .i64 m])) * (vrg bv bp ⟨t, ep, false⟩ * (plt bp ty rest d * R)))).right⟩
  · have hb0 : decide (kp < 0) = false := by simpa using h0
    by_cases h9 : kp < 9
    · obtain ⟨K, rfl⟩ := Int.eq_ofNat_of_zero_le (show 0 ≤ kp by omega)
      have hK : keepN (K : Int) = K := by unfold keepN; omega
      have hap0 := HAP.out
      rw [hK] at hap0
      have hKc : K ≤ cv := by omega
      have hK9 : K < 9 := by omega
      have hb9 : decide ((K : Int) < 9) = true := by simpa using h9
      clear hK h0 h9
      go_wp2_with fail
      refine wp_region_lex (fun W => W.cell? ⟨bv, 25, none⟩ = some (.pointer (some ⟨bp, 0, none⟩)) ∧ W.cell? ⟨bv, 26, none⟩ = some (.int .i64 ep)) [9] (by kernel_rfl) (by kernel_rfl) HV7.out ?_
      repeat (first | (refine LexL.none (by rfl) ?_; (try simp only [Act.put, List.setIfInBounds_toArray, List.set_cons_zero, List.set_cons_succ])) | (refine LexL.still (v := ?_) (by rfl) ?_ ?_; rotate_left; (focus (intro W hW; (try dsimp only at hW); go_simp; (try (with_reducible rfl)); done)); (try simp only [Act.put, List.setIfInBounds_toArray, List.set_cons_zero, List.set_cons_succ])))
      refine LexL.call (f := 95) (args := #[.pointer (some ⟨bp, 0, none⟩), .int .i64 ep, .slice (some av') K cv]) (w1 := w7.drew) (by rfl) (by decide) (by go_simp) ?_
      refine (pappend_sl bp ty rest d ep _ (l.take K) _ (H7.out.drew.eq (by ac_rfl : _ = plt bp ty rest d * (ownb (.slice (some av') 9 cv) l * (bl q2 88 [.int .i64 0, .int .i64 a2, .int .i64 a3] * (bl ga 88 [.int .i64 0, .int .i64 0, .int .i64 0] * (bl q1 96 (tcells T') * (bl g0 84 [.int .i64 c, .int .i64 nw, .int .i64 j, .int .i64 r, .int .i64 k, .int .i64 m] * (vrg bv bp ⟨t, ep, false⟩ * R)))))))) HDK.out (H7.out.drew.ownb.bytes.take (by rw [HL9.out]; omega)) (by simp [HL9.out] <;> omega)).mono ?_
      rw [hap0]
      rintro e w8 ⟨rfl, q8, h8⟩
      have H8 := Lib.hid ((show Holds w8 (plt bp ty rest d' * (ownb (.slice (some av') 9 cv) l * (bl q2 88 [.int .i64 0, .int .i64 a2, .int .i64 a3] * (bl ga 88 [.int .i64 0, .int .i64 0, .int .i64 0] * (bl q1 96 (tcells T') * (bl g0 84 [.int .i64 c, .int .i64 nw, .int .i64 j, .int .i64 r, .int .i64 k, .int .i64 m] * (vrg bv bp ⟨t, ep, false⟩ * R))))))) from h8).eq (by ac_rfl : _ = ownb (.slice (some av') 9 cv) l * (bl ga 88 [.int .i64 0, .int .i64 0, .int .i64 0] * (vrg bv bp ⟨t, ep, false⟩ * (bl q2 88 [.int .i64 0, .int .i64 a2, .int .i64 a3] * (bl q1 96 (tcells T') * (bl g0 84 [.int .i64 c, .int .i64 nw, .int .i64 j, .int .i64 r, .int .i64 k, .int .i64 m] * (plt bp ty rest d' * R)))))))).right
      have Q8 := Lib.hid (Q7.out.drew.trans q8)
      have hV8 : BlockAt w8 bv 99 (gcl bp ⟨t, ep, false⟩) := H8.out.two.bl
      refine ⟨_, rfl, ⟨hV8.cell 25 _ (gcl_p bp ⟨t, ep, false⟩), hV8.cell 26 _ (gcl_ep bp ⟨t, ep, false⟩)⟩, ?_⟩
      try simp only [Act.put, List.setIfInBounds_toArray, List.set_cons_zero, List.set_cons_succ]
      repeat (first | (refine LexL.none (by rfl) ?_; (try simp only [Act.put, List.setIfInBounds_toArray, List.set_cons_zero, List.set_cons_succ])) | (refine LexL.still (v := ?_) (by rfl) ?_ ?_; rotate_left; (focus (intro W hW; (try dsimp only at hW); go_simp; (try (with_reducible rfl)); done)); (try simp only [Act.put, List.setIfInBounds_toArray, List.set_cons_zero, List.set_cons_succ])))
      refine LexL.done ?_
      by_cases hac : ac = 0
      · subst hac
        have HY2 := Lib.hid (show (d', (⟨T', ep, false⟩ : Nod), (⟨0, a2, a3⟩ : Ans)) = Y by rw [← HY.out, if_neg (by simp)])
        have ca := H8.out.bl.cells
        clear HY h8 q8
        go_wp2_with (first | (refine wpList_load_whole rfl 96 _ rfl q1 rfl (tcells T') (H8.out.right.right.right.bl) Tryz.underlying96 rfl (by kernel_rfl) ?_) | (refine wpList_store_part rfl 96 _ _ rfl bv 0 (tcells T') rfl rfl hV8 (by rw [gcl_len, tcells_len]; decide) (by kernel_rfl) (tcells_ones T') ?_; intro w9 h1' h2' h3'; have HE := Lib.hid (H8.out.two.grown h2' (show BlockAt w9 bv 99 (gcl bp ⟨T', ep, false⟩) from h1')); have QE := Lib.hid (Q8.out.trans (Quiet.grown h2')); have ca := HE.out.two.bl.cells; have fe := HE.out.two.bl.frees; have le := HE.out.two.bl.lt; have c2 := HE.out.three.bl.cells; clear h1' h2' h3'))
        have hf := (((HE.out.two.setB 0 (.int .i64 0)).setB 1 (.int .i64 a2)).setB 2 (.int .i64 a3))
        have hl := run_load_part (P := Tryz.prog) (off := 0) (ty := 88) (vs := [.int .i64 0, .int .i64 a2, .int .i64 a3]) hf.bl rfl Tryz.underlying88 rfl (by kernel_rfl)
        rw [← HY2.out]
        exact bodyPost_ret (results_cell1 rfl rfl hl) rfl ⟨rfl, ((QE.out.setCell _ _).setCell _ _).setCell _ _, (hf.right.eq (by unfold vrg; ac_rfl : _ = (bl q2 88 [.int .i64 0, .int .i64 a2, .int .i64 a3] * (bl q1 96 (tcells T') * bl g0 84 [.int .i64 c, .int .i64 nw, .int .i64 j, .int .i64 r, .int .i64 k, .int .i64 m])) * (vrg bv bp ⟨T', ep, false⟩ * (plt bp ty rest d' * R)))).right⟩
      · have hacb : (ac != 0) = true := by simpa using hac
        have hde : d' = d := by have := HAP.out; unfold Dsk.append at this; split at this; · simp only [Prod.mk.injEq] at this; exact this.1.symm
                                · split at this
                                  · simp only [Prod.mk.injEq] at this; exact this.1.symm
                                  · simp only [Prod.mk.injEq] at this; exact absurd this.2.symm hac
        have HDE := Lib.hid hde
        have HY2 := Lib.hid (show (d, (⟨t, ep, false⟩ : Nod), (⟨ac, 0, 0⟩ : Ans)) = Y by rw [← HY.out, if_pos hac])
        have ca := H8.out.bl.cells
        have fa := H8.out.bl.frees
        have la := H8.out.bl.lt
        clear HY hac hde h8 q8 hV8
        go_wp2
        have hf := ((H8.out.setB 0 (.int .i64 ac)).setB 1 (.int .i64 0)).setB 2 (.int .i64 0)
        have hl := run_load_part (P := Tryz.prog) (off := 0) (ty := 88) (vs := [.int .i64 ac, .int .i64 0, .int .i64 0]) hf.bl rfl Tryz.underlying88 rfl (by kernel_rfl)
        rw [← HY2.out]
        exact bodyPost_ret (results_cell1 rfl rfl hl) rfl ⟨rfl, ((Q8.out.setCell _ _).setCell _ _).setCell _ _, by have h9 := hf.right; rw [HDE.out] at h9; exact (h9.eq (by ac_rfl : _ = (bl q2 88 [.int .i64 0, .int .i64 a2, .int .i64 a3] * (bl q1 96 (tcells T') * bl g0 84 [.int .i64 c, .int .i64 nw, .int .i64 j, .int .i64 r, .int .i64 k, .int .i64 m])) * (vrg bv bp ⟨t, ep, false⟩ * (plt bp ty rest d * R)))).right⟩
    · have hK : keepN kp = 9 := by unfold keepN; omega
      have hap0 := HAP.out
      rw [hK] at hap0
      have hb9 : decide (kp < 9) = false := by simpa using h9
      clear hK h0 h9
      go_wp2_with fail
      refine wp_region_lex (fun W => W.cell? ⟨bv, 25, none⟩ = some (.pointer (some ⟨bp, 0, none⟩)) ∧ W.cell? ⟨bv, 26, none⟩ = some (.int .i64 ep)) [9] (by kernel_rfl) (by kernel_rfl) HV7.out ?_
      repeat (first | (refine LexL.none (by rfl) ?_; (try simp only [Act.put, List.setIfInBounds_toArray, List.set_cons_zero, List.set_cons_succ])) | (refine LexL.still (v := ?_) (by rfl) ?_ ?_; rotate_left; (focus (intro W hW; (try dsimp only at hW); go_simp; (try (with_reducible rfl)); done)); (try simp only [Act.put, List.setIfInBounds_toArray, List.set_cons_zero, List.set_cons_succ])))
      refine LexL.call (f := 95) (args := #[.pointer (some ⟨bp, 0, none⟩), .int .i64 ep, .slice (some av') 9 cv]) (w1 := w7.drew) (by rfl) (by decide) (by go_simp) ?_
      refine (pappend_sl bp ty rest d ep _ (l.take 9) _ (H7.out.drew.eq (by ac_rfl : _ = plt bp ty rest d * (ownb (.slice (some av') 9 cv) l * (bl q2 88 [.int .i64 0, .int .i64 a2, .int .i64 a3] * (bl ga 88 [.int .i64 0, .int .i64 0, .int .i64 0] * (bl q1 96 (tcells T') * (bl g0 84 [.int .i64 c, .int .i64 nw, .int .i64 j, .int .i64 r, .int .i64 k, .int .i64 m] * (vrg bv bp ⟨t, ep, false⟩ * R)))))))) HDK.out (by rw [List.take_of_length_le (by rw [HL9.out]; decide)]; exact H7.out.drew.ownb.bytes) (by simp [HL9.out] <;> omega)).mono ?_
      rw [hap0]
      rintro e w8 ⟨rfl, q8, h8⟩
      have H8 := Lib.hid ((show Holds w8 (plt bp ty rest d' * (ownb (.slice (some av') 9 cv) l * (bl q2 88 [.int .i64 0, .int .i64 a2, .int .i64 a3] * (bl ga 88 [.int .i64 0, .int .i64 0, .int .i64 0] * (bl q1 96 (tcells T') * (bl g0 84 [.int .i64 c, .int .i64 nw, .int .i64 j, .int .i64 r, .int .i64 k, .int .i64 m] * (vrg bv bp ⟨t, ep, false⟩ * R))))))) from h8).eq (by ac_rfl : _ = ownb (.slice (some av') 9 cv) l * (bl ga 88 [.int .i64 0, .int .i64 0, .int .i64 0] * (vrg bv bp ⟨t, ep, false⟩ * (bl q2 88 [.int .i64 0, .int .i64 a2, .int .i64 a3] * (bl q1 96 (tcells T') * (bl g0 84 [.int .i64 c, .int .i64 nw, .int .i64 j, .int .i64 r, .int .i64 k, .int .i64 m] * (plt bp ty rest d' * R)))))))).right
      have Q8 := Lib.hid (Q7.out.drew.trans q8)
      have hV8 : BlockAt w8 bv 99 (gcl bp ⟨t, ep, false⟩) := H8.out.two.bl
      refine ⟨_, rfl, ⟨hV8.cell 25 _ (gcl_p bp ⟨t, ep, false⟩), hV8.cell 26 _ (gcl_ep bp ⟨t, ep, false⟩)⟩, ?_⟩
      try simp only [Act.put, List.setIfInBounds_toArray, List.set_cons_zero, List.set_cons_succ]
      repeat (first | (refine LexL.none (by rfl) ?_; (try simp only [Act.put, List.setIfInBounds_toArray, List.set_cons_zero, List.set_cons_succ])) | (refine LexL.still (v := ?_) (by rfl) ?_ ?_; rotate_left; (focus (intro W hW; (try dsimp only at hW); go_simp; (try (with_reducible rfl)); done)); (try simp only [Act.put, List.setIfInBounds_toArray, List.set_cons_zero, List.set_cons_succ])))
      refine LexL.done ?_
      by_cases hac : ac = 0
      · subst hac
        have HY2 := Lib.hid (show (d', (⟨T', ep, false⟩ : Nod), (⟨0, a2, a3⟩ : Ans)) = Y by rw [← HY.out, if_neg (by simp)])
        have ca := H8.out.bl.cells
        clear HY h8 q8
        go_wp2_with (first | (refine wpList_load_whole rfl 96 _ rfl q1 rfl (tcells T') (H8.out.right.right.right.bl) Tryz.underlying96 rfl (by kernel_rfl) ?_) | (refine wpList_store_part rfl 96 _ _ rfl bv 0 (tcells T') rfl rfl hV8 (by rw [gcl_len, tcells_len]; decide) (by kernel_rfl) (tcells_ones T') ?_; intro w9 h1' h2' h3'; have HE := Lib.hid (H8.out.two.grown h2' (show BlockAt w9 bv 99 (gcl bp ⟨T', ep, false⟩) from h1')); have QE := Lib.hid (Q8.out.trans (Quiet.grown h2')); have ca := HE.out.two.bl.cells; have fe := HE.out.two.bl.frees; have le := HE.out.two.bl.lt; have c2 := HE.out.three.bl.cells; clear h1' h2' h3'))
        have hf := (((HE.out.two.setB 0 (.int .i64 0)).setB 1 (.int .i64 a2)).setB 2 (.int .i64 a3))
        have hl := run_load_part (P := Tryz.prog) (off := 0) (ty := 88) (vs := [.int .i64 0, .int .i64 a2, .int .i64 a3]) hf.bl rfl Tryz.underlying88 rfl (by kernel_rfl)
        rw [← HY2.out]
        exact bodyPost_ret (results_cell1 rfl rfl hl) rfl ⟨rfl, ((QE.out.setCell _ _).setCell _ _).setCell _ _, (hf.right.eq (by unfold vrg; ac_rfl : _ = (bl q2 88 [.int .i64 0, .int .i64 a2, .int .i64 a3] * (bl q1 96 (tcells T') * bl g0 84 [.int .i64 c, .int .i64 nw, .int .i64 j, .int .i64 r, .int .i64 k, .int .i64 m])) * (vrg bv bp ⟨T', ep, false⟩ * (plt bp ty rest d' * R)))).right⟩
      · have hacb : (ac != 0) = true := by simpa using hac
        have hde : d' = d := by have := HAP.out; unfold Dsk.append at this; split at this; · simp only [Prod.mk.injEq] at this; exact this.1.symm
                                · split at this
                                  · simp only [Prod.mk.injEq] at this; exact this.1.symm
                                  · simp only [Prod.mk.injEq] at this; exact absurd this.2.symm hac
        have HDE := Lib.hid hde
        have HY2 := Lib.hid (show (d, (⟨t, ep, false⟩ : Nod), (⟨ac, 0, 0⟩ : Ans)) = Y by rw [← HY.out, if_pos hac])
        have ca := H8.out.bl.cells
        have fa := H8.out.bl.frees
        have la := H8.out.bl.lt
        clear HY hac hde h8 q8 hV8
        go_wp2
        have hf := ((H8.out.setB 0 (.int .i64 ac)).setB 1 (.int .i64 0)).setB 2 (.int .i64 0)
        have hl := run_load_part (P := Tryz.prog) (off := 0) (ty := 88) (vs := [.int .i64 ac, .int .i64 0, .int .i64 0]) hf.bl rfl Tryz.underlying88 rfl (by kernel_rfl)
        rw [← HY2.out]
        exact bodyPost_ret (results_cell1 rfl rfl hl) rfl ⟨rfl, ((Q8.out.setCell _ _).setCell _ _).setCell _ _, by have h9 := hf.right; rw [HDE.out] at h9; exact (h9.eq (by ac_rfl : _ = (bl q2 88 [.int .i64 0, .int .i64 a2, .int .i64 a3] * (bl q1 96 (tcells T') * bl g0 84 [.int .i64 c, .int .i64 nw, .int .i64 j, .int .i64 r, .int .i64 k, .int .i64 m])) * (vrg bv bp ⟨t, ep, false⟩ * (plt bp ty rest d * R)))).right⟩
end Go.Proofs.YtfihmpkkpgmdhaaGreatDoor
namespace Go.Proofs.YtfihmpkkpgmdhaaGreatDoor
open Go.RowKit
theorem vorder_sl (bv bp:Nat) (ty:TypeId) (rest:List Value) (d:Dsk) (n:Nod) (c nw j r k m kp:Int) (w:World) {R:HP} (h:Holds w (vrg bv bp n*(plt bp ty rest d*R))) (hd:d.Ok) (he:1≤n.ep) (hok:n.t.Ok) :
  Calls Tryz.prog 62 #[.pointer (some ⟨bv,0,none⟩),.agg #[.int .i64 c,.int .i64 nw,.int .i64 j,.int .i64 r,.int .i64 k,.int .i64 m],.int .i64 kp] w (VPost w bv bp ty rest R (n.order d ⟨c,nw,j,r,k,m⟩ (keepN kp))):=by
 obtain ⟨t,ep,dn⟩:=n
 cases dn with
 | true=>
  have:=vord_down bv bp ty rest d t ep c nw j r k m kp w h
  unfold Nod.order
  rw [if_pos rfl]
  exact this
 | false=>
  unfold Nod.order
  rw [if_neg (by simp)]
  dsimp only at he hok ⊢
  by_cases hne:ep=d.ep
  ·rw [if_neg (by simpa using hne)]
   by_cases hc:(t.did ⟨c,nw,j,r,k,m⟩).2.code=0
   ·rw [if_neg (by simpa using hc)]
    have h1:=hd.ep
    exact vord_wrote bv bp ty rest d t ep c nw j r k m kp w h hd hok hne hc (by unfold chkR;rw [if_neg (by dsimp only;omega)];exact did_chk hc)
   ·rw [if_pos hc]
    exact vord_refused bv bp ty rest d t ep c nw j r k m kp w h hok hne hc
  ·rw [if_pos hne]
   exact vord_fenced bv bp ty rest d t ep c nw j r k m kp w h hne
theorem vtear_sl (bv bp:Nat) (ty:TypeId) (rest:List Value) (d:Dsk) (n:Nod) (c nw j r k m kp:Int) (w:World) {R:HP} (h:Holds w (vrg bv bp n*(plt bp ty rest d*R))) (hd:d.Ok) (he:1≤n.ep) (hok:n.t.Ok) :
  Calls Tryz.prog 63 #[.pointer (some ⟨bv,0,none⟩),.agg #[.int .i64 c,.int .i64 nw,.int .i64 j,.int .i64 r,.int .i64 k,.int .i64 m],.int .i64 kp] w
   fun e w'=>e=.returned (.int .i64 (n.tear d ⟨c,nw,j,r,k,m⟩ (keepN kp)).2.2)∧Quiet w w'∧Holds w' (vrg bv bp (n.tear d ⟨c,nw,j,r,k,m⟩ (keepN kp)).2.1*(plt bp ty rest (n.tear d ⟨c,nw,j,r,k,m⟩ (keepN kp)).1*R)):=by
 have hcall:=fun W (R':HP) (h:Holds W (vrg bv bp n*(plt bp ty rest d*R')))=>vorder_sl bv bp ty rest d n c nw j r k m kp W h hd he hok
 unfold Nod.tear
 obtain ⟨⟨d',n',⟨a1,a2,a3⟩⟩,hX⟩:∃ X,n.order d ⟨c,nw,j,r,k,m⟩ (keepN kp)=X:=⟨_,rfl⟩
 rw [hX] at hcall ⊢
 dsimp only at hcall ⊢
 obtain ⟨Y,hY⟩:∃ Y,(if a1=0 then (d',(⟨n.t,n'.ep,true⟩:Nod),a1) else (d',n',a1))=Y:=⟨_,rfl⟩
 rw [hY]
 have HY:=Lib.hid hY
 have HC:=Lib.hid hcall
 clear hX hcall hd he hok hY
 obtain ⟨w0,hw0,H0,Q0⟩:∃ w0,w.alloc (.cells #[.int .i64 c,.int .i64 nw,.int .i64 j,.int .i64 r,.int .i64 k,.int .i64 m] 84)=w0∧Hid (Holds w0 (bl w.heap.size 84 [.int .i64 c,.int .i64 nw,.int .i64 j,.int .i64 r,.int .i64 k,.int .i64 m]*(vrg bv bp n*(plt bp ty rest d*R))))∧Hid (Quiet w w0):=
  ⟨_,rfl,Lib.hid (h.boxB (ty:=84) (cs:=[.int .i64 c,.int .i64 nw,.int .i64 j,.int .i64 r,.int .i64 k,.int .i64 m]) rfl),Lib.hid ((Quiet.refl w).alloc _)⟩
 clear h
 obtain ⟨g0,hg0⟩:∃ g0,w.heap.size=g0:=⟨_,rfl⟩
 rw [hg0] at H0
 obtain ⟨gt,hgt⟩:∃ gt,w0.heap.size=gt:=⟨_,rfl⟩
 have H1:=Lib.hid (H0.out.boxB (ty:=96) (cs:=tcells Tbl.zero) hgt)
 have Q1:=Lib.hid (Q0.out.alloc (.cells (tcells Tbl.zero).toArray 96))
 have hV0:BlockAt w0 bv 99 (gcl bp n):=H0.out.two.bl
 go_enter Tryz.func63,Tryz.ntmps63
 go_wp2_with (first|(refine wpList_load_part rfl 96 _ rfl bv 0 rfl (tcells n.t) hV0 rfl Tryz.underlying96 rfl (by kernel_rfl) ?_)|(refine wpList_store_whole rfl 96 _ _ rfl gt (tcells n.t) rfl rfl H1.out.bl (by rw [tcells_len,tcells_len]) (by kernel_rfl) (tcells_ones _) ?_;intro w2 h1' h2' h3';have H2:=Lib.hid (H1.out.grown h2' h1');have Q2:=Lib.hid (Q1.out.trans (Quiet.grown h2'));have co:=H2.out.two.bl.cells;clear h1' h2' h3'))
 clear hw0 hg0 hgt
 refine (HC.out _ (bl gt 96 (tcells n.t)*(bl g0 84 [.int .i64 c,.int .i64 nw,.int .i64 j,.int .i64 r,.int .i64 k,.int .i64 m]*R)) (H2.out.eq (by ac_rfl))).mono ?_
 rintro e w3 ⟨rfl,q3,h3⟩
 simp only [Ans.val]
 have H4:=Lib.hid ((show Holds w3 (vrg bv bp n'*(plt bp ty rest d'*(bl gt 96 (tcells n.t)*(bl g0 84 [.int .i64 c,.int .i64 nw,.int .i64 j,.int .i64 r,.int .i64 k,.int .i64 m]*R)))) from h3).boxB (ty:=88) (cs:=[.int .i64 a1,.int .i64 a2,.int .i64 a3]) rfl)
 have Q4:=Lib.hid ((Q2.out.trans q3).alloc (.cells #[.int .i64 a1,.int .i64 a2,.int .i64 a3] 88))
 obtain ⟨gy,hgy⟩:∃ gy,w3.heap.size=gy:=⟨_,rfl⟩
 obtain ⟨w4,hw4⟩:∃ w4,w3.alloc (.cells #[.int .i64 a1,.int .i64 a2,.int .i64 a3] 88)=w4:=⟨_,rfl⟩
 rw [hgy,show w3.alloc (.cells ([.int .i64 a1,.int .i64 a2,.int .i64 a3]:List Value).toArray 88)=w4 from hw4] at H4
 rw [hw4] at Q4
 have cy:=H4.out.bl.cells
 clear h3 q3 H2 Q2 co
 by_cases hz:a1=0
 ·subst hz
  have HY2:=Lib.hid (show (d',(⟨n.t,n'.ep,true⟩:Nod),(0:Int))=Y by rw [←HY.out,if_pos rfl])
  have hV4:BlockAt w4 bv 99 (gcl bp n'):=H4.out.two.bl
  clear HY
  go_wp2_with (first|(refine wpList_load_whole rfl 96 _ rfl gt rfl (tcells n.t) H4.out.four.bl Tryz.underlying96 rfl (by kernel_rfl) ?_)|(refine wpList_store_part rfl 96 _ _ rfl bv 0 (tcells n.t) rfl rfl hV4 (by rw [gcl_len,tcells_len];decide) (by kernel_rfl) (tcells_ones n.t) ?_;intro w9 h1' h2' h3';have HE:=Lib.hid (H4.out.two.grown h2' (show BlockAt w9 bv 99 (gcl bp ⟨n.t,n'.ep,n'.down⟩) from h1'));have QE:=Lib.hid (Q4.out.trans (Quiet.grown h2'));have fb:=(show BlockAt w9 bv 99 (gcl bp ⟨n.t,n'.ep,n'.down⟩) from HE.out.bl).frees;have cb:=(show BlockAt w9 bv 99 (gcl bp ⟨n.t,n'.ep,n'.down⟩) from HE.out.bl).cell 27 _ (gcl_down bp ⟨n.t,n'.ep,n'.down⟩);have lb:=(show BlockAt w9 bv 99 (gcl bp ⟨n.t,n'.ep,n'.down⟩) from HE.out.bl).lt;have cy:=HE.out.two.bl.cells;have nb:=BlockAt.ne (show BlockAt w9 bv 99 (gcl bp ⟨n.t,n'.ep,n'.down⟩) from HE.out.bl) HE.out.two.bl (by decide);have nb':=Ne.symm nb;clear h1' h2' h3'))
  rw [←HY2.out]
  go_ret
  exact ⟨rfl,QE.out.setCell _ _,((HE.out.setB 27 (.bool true)).eq (by ac_rfl:_=(bl gy 88 [.int .i64 0,.int .i64 a2,.int .i64 a3]*(bl gt 96 (tcells n.t)*bl g0 84 [.int .i64 c,.int .i64 nw,.int .i64 j,.int .i64 r,.int .i64 k,.int .i64 m]))*(bl bv 99 ((gcl bp ⟨n.t,n'.ep,n'.down⟩).set 27 (.bool true))*(plt bp ty rest d'*R)))).right⟩
 ·have hzb:(a1==0)=false:=by simpa using hz
  have HY2:=Lib.hid (show (d',n',a1)=Y by rw [←HY.out,if_neg hz])
  clear HY hz
  go_wp2
  rw [←HY2.out]
  go_ret
  exact ⟨rfl,Q4.out,(H4.out.eq (by ac_rfl:_=(bl gy 88 [.int .i64 a1,.int .i64 a2,.int .i64 a3]*(bl gt 96 (tcells n.t)*bl g0 84 [.int .i64 c,.int .i64 nw,.int .i64 j,.int .i64 r,.int .i64 k,.int .i64 m]))*(vrg bv bp n'*(plt bp ty rest d'*R)))).right⟩
end Go.Proofs.YtfihmpkkpgmdhaaGreatDoor
end
