/-
  What the proof of DeskDoes leans on: definitions, laws, contracts of functions. No condition besides those that each theorem names.
-/
import Derived.Test.YtfihmpkkpgmdhaaGreatDoorZD18
import Derived.Test.YtfihmpkkpgmdhaaGreatDoorZD13
import Derived.Test.YtfihmpkkpgmdhaaGreatDoorZD20
import Derived.Test.YtfihmpkkpgmdhaaGreatDoorZD07
import Derived.Test.YtfihmpkkpgmdhaaGreatDoorZD02
import Derived.Test.YtfihmpkkpgmdhaaGreatDoorZD17
set_option maxRecDepth 100000
set_option maxHeartbeats 16000000
set_option linter.unusedVariables false
set_option linter.unusedSimpArgs false
set_option linter.unnecessarySimpa false
namespace Go.Proofs.YtfihmpkkpgmdhaaGreatDoor
open Go.RowKit
open List renaming setIfInBounds_toArray → zA, set_cons_zero → zB, set_cons_succ → zC
open Go.Act renaming put → zP
open Go.Lib renaming hid → zH
open Go.Value renaming int → zI
open Go.IntKind renaming i64 → zi
theorem Tryz.infoPair:(Tryz.prog.info? 128).map (fun i=>(i.zero,i.size,i.bytes))=some (some (.agg #[zI zi 0,zI zi 0]),2,16):=by kernel_rfl
def hvs (l:List (Int×Int)):List Value:=l.flatMap fun p=>[zI zi p.1,zI zi p.2]
theorem hvs_append (l m:List (Int×Int)):hvs (l++m)=hvs l++hvs m:=by simp [hvs]
theorem hvs_get (l:List (Int×Int)):∀ (i:Nat) (p:Int×Int),l[i]? = some p→(hvs l)[i*2]? = some (zI zi p.1)∧(hvs l)[i*2+1]? = some (zI zi p.2):=by
 induction l with
 | nil=>intro i p h;simp at h
 | cons q l ih=>
  intro i p h
  have e:hvs (q::l)=[zI zi q.1,zI zi q.2]++hvs l:=by simp [hvs]
  rw [e]
  cases i with
  | zero=>simp at h;subst h;simp
  | succ i=>
   simp only [List.getElem?_cons_succ] at h
   obtain ⟨h1,h2⟩:=ih i p h
   rw [List.getElem?_append_right (by simp;omega),List.getElem?_append_right (by simp;omega)]
   simp only [List.length_cons,List.length_nil]
   rw [show (i+1)*2-(0+1+1)=i*2 by omega,show (i+1)*2+1-(0+1+1)=i*2+1 by omega]
   exact ⟨h1,h2⟩
def hold (v:Value) (l:List (Int×Int)):HP:=rw_ 128 2 v l.length (hvs l)
theorem holders_step {E:List Ev} {k:Nat} {e:Ev} (h:E[k]? = some e) (j:Int):holders (E.take (k+1)) j=holders (E.take k) j++(if e.has j then [(e.r.o.wk,e.a.tr)] else []):=by
 have hl:=(List.getElem?_eq_some_iff.1 h).1
 rw [List.take_succ_eq_append_getElem hl,(List.getElem?_eq_some_iff.1 h).2]
 unfold holders
 rw [List.filter_append,List.map_append]
 congr 1
 by_cases hh:e.has j=true
 ·simp [hh]
 ·simp [hh]
theorem clip_any (v:Value) (n:Nat) (xs:List Value) (w:World) (h:OwnRow w 128 2 v n xs) :
  Calls Tryz.prog 80 #[v] w fun e w'=>∃ v',e=.returned v'∧w=w'∧OwnRow w 128 2 v' n xs∧v'.ownBlock=v.ownBlock:=by
 obtain ⟨h1,h2,h3⟩:=h
 rcases h3 with ⟨rfl,rfl⟩|⟨g,cap,cur,rfl,hb,k1,k2,k3,k4⟩
 ·go_enter Tryz.func80,Tryz.ntmps80
  go_wp2
  go_ret
  exact ⟨_,rfl,rfl,⟨h1,h2,.inl ⟨rfl,rfl⟩⟩,rfl⟩
 ·go_enter Tryz.func80,Tryz.ntmps80
  go_wp2
  go_ret
  exact ⟨_,rfl,rfl,⟨h1,h2,.inr ⟨g,n,cur,rfl,hb,Nat.le_refl _,by omega,by omega,k4⟩⟩,rfl⟩
theorem Holds.reOwn {w:World} {e:TypeId} {s n:Nat} {v v':Value} {xs:List Value} {R:HP} (h:Holds w (rw_ e s v n xs*R)) (h2:OwnRow w e s v' n xs) (h3:v'.ownBlock=v.ownBlock):Holds w (rw_ e s v' n xs*R):=
 h.imp fun F ⟨_,hF⟩=>⟨h2,by rw [hF,h3]⟩
theorem Holds.nilH {w:World} {A:HP} (h:Holds w A):Holds w (hold (.slice none 0 0) []*A):=h.nilRow _ _
theorem evvs_cell0 {w:World} {g off:Nat} {l:List Ev} (h:∀ j u,(evvs l)[j]? = some u→w.cell? ⟨g,off+j,none⟩=some u) {i:Nat} {r:Ev} (hi:l[i]? = some r):w.cell? ⟨g,off+i*14,none⟩=some (zI zi r.r.ep):=by
 have:=evvs_cell h hi 0 _ (by omega) rfl
 rwa [Nat.add_zero] at this
theorem holders_any (v:Value) (E:List Ev) (j:Int) (w:World) (h:RowAt w v E.length (evvs E)) (hl:E.length≤20000):Calls Tryz.prog 55 #[v,zI zi j] w (PostX w (old w) (fun v=>v) fun v=>hold v (holders E j)):=by
 obtain ⟨a,cc,rfl,-,-⟩:=h.shape
 have HV:=zH h;clear h
 obtain ⟨i0,hi,hz0,hz1,hz2⟩:=info_parts Tryz.infoPair
 have HI:=zH hi;have HZ0:=zH hz0;have HZ1:=zH hz1;have HZ2:=zH hz2
 clear hi hz0 hz1 hz2
 go_enter Tryz.func55,Tryz.ntmps55
 go_wp2_with fail
 go_loopw [5,10] (fun s i wr=>∃ k:Nat,k≤E.length∧i=zI zi k∧Holds wr (hold s (holders (E.take k) j)*old w)∧Quiet w wr) (fun _ i _=>E.length-(intOf i).toNat)
 case atStart=>exact ⟨0,by omega,rfl,Holds.old.nilH,Quiet.refl _⟩
 case round=>
  obtain ⟨k,hk,rfl,hh,hq⟩:=hrel
  have HK:=zH hk
  by_cases hlt:k<E.length
  ·obtain ⟨r,hr⟩:∃ r,E[k]? = some r:=⟨_,List.getElem?_eq_getElem hlt⟩
   obtain ⟨g,off,cx,e,_,_,hc0⟩:=(HV.out.old hh).get (by omega)
   simp only [Value.slice.injEq] at e
   obtain ⟨rfl,_,rfl⟩:=e
   have hst:=holders_step hr j
   obtain ⟨acc,hacc⟩:∃ acc,holders (E.take k) j=acc:=⟨_,rfl⟩
   have hal:acc.length≤20000:=by rw [←hacc];unfold holders;rw [List.length_map];have:=List.length_filter_le (fun e:Ev=>e.has j) (E.take k);rw [List.length_take] at this;omega
   rw [hacc] at hh hst
   obtain ⟨⟨ep2,⟨kd,nw,jb,tr,wk,tm⟩⟩,⟨a0,a1,a2⟩,⟨s1,s2,s3,s4⟩⟩:=r
   have y0:=evvs_cell0 hc0 hr
   have y1:=evvs_cell hc0 hr 1 _ (by omega) rfl
   have y2:=evvs_cell hc0 hr 2 _ (by omega) rfl
   have y3:=evvs_cell hc0 hr 3 _ (by omega) rfl
   have y4:=evvs_cell hc0 hr 4 _ (by omega) rfl
   have y5:=evvs_cell hc0 hr 5 _ (by omega) rfl
   have y6:=evvs_cell hc0 hr 6 _ (by omega) rfl
   have y7:=evvs_cell hc0 hr 7 _ (by omega) rfl
   have y8:=evvs_cell hc0 hr 8 _ (by omega) rfl
   have y9:=evvs_cell hc0 hr 9 _ (by omega) rfl
   have y10:=evvs_cell hc0 hr 10 _ (by omega) rfl
   have y11:=evvs_cell hc0 hr 11 _ (by omega) rfl
   have y12:=evvs_cell hc0 hr 12 _ (by omega) rfl
   have y13:=evvs_cell hc0 hr 13 _ (by omega) rfl
   dsimp only at y0 y1 y2 y3 y4 y5 y6 y7 y8 y9 y10 y11 y12 y13
   simp only [Ev.has] at hst
   have HST:=zH hst
   obtain ⟨wo,rfl⟩:∃ wo:World,wo=wr:=⟨_,rfl⟩
   have hx:=hh.boxB (ty:=125) (cs:=[zI zi ep2,zI zi kd,zI zi nw,zI zi jb,zI zi tr,zI zi wk,zI zi tm,zI zi a0,zI zi a1,zI zi a2,zI zi s1,zI zi s2,zI zi s3,zI zi s4]) rfl
   have HB:=zH hx;have QB:=zH (hq.alloc (.cells ([zI zi ep2,zI zi kd,zI zi nw,zI zi jb,zI zi tr,zI zi wk,zI zi tm,zI zi a0,zI zi a1,zI zi a2,zI zi s1,zI zi s2,zI zi s3,zI zi s4]:List Value).toArray 125))
   have HH:=zH hh;have HQ:=zH hq
   clear hh hq hr hc0 hx hacc hst
   by_cases h2:kd=2
   ·subst h2
    by_cases h0:a0=0
    ·subst h0
     by_cases h1:a1=j
     ·subst h1
      have hst:=HST.out
      simp only [decide_true,Bool.and_self,if_true] at hst
      have HS:=zH hst
      clear hst HST
      have hn3:=(OwnRow.new (wo.alloc (.cells #[zI zi ep2,zI zi 2,zI zi nw,zI zi jb,zI zi tr,zI zi wk,zI zi tm,zI zi 0,zI zi a1,zI zi a2,zI zi s1,zI zi s2,zI zi s3,zI zi s4] 125)) 128 2 1 [zI zi wk,zI zi a2] rfl (ivs_ones [wk,a2]) (by omega)).row
      have ho3:=(HB.out.alloc (.cells #[zI zi wk,zI zi a2] 128)).two
      simp only [World.size_alloc] at hn3
      have HN3:=zH hn3;have HO3:=zH ho3;have QO3:=zH (QB.out.alloc (.cells #[zI zi wk,zI zi a2] 128));clear hn3 ho3
      have hbj:(a1==a1)=true:=by simp
      go_wp2_with (at_builtin;refine wpList_append_sl rfl _ _ 126 rfl 128 i0 _ 2 16 Tryz.underlying126 HI.out HZ0.out HZ1.out HZ2.out rfl (by decide) rfl rfl HO3.out HN3.out rfl (ivs_ones [wk,a2]) (by omega) (by omega) ?_;intro v' w' hv' hq';have HV':=zH hv';have HQ':=zH hq';clear hv' hq')
      go_roundw
      case rel=>exact ⟨k+1,by omega,by go_num,by rw [HS.out];exact (HV'.out.two.right.eq (by unfold hold;rw [hvs_append,List.length_append];rfl)),QO3.out.trans HQ'.out⟩
      case measure=>simp [intOf];omega
     ·have hbj:(a1==j)=false:=by simpa using h1
      have hst:=HST.out
      simp only [h1,decide_true,decide_false,Bool.and_false,Bool.false_eq_true,if_false,List.append_nil] at hst
      have HS:=zH hst
      clear hst HST h1
      go_wp2_with fail
      go_roundw
      case rel=>exact ⟨k+1,by omega,by go_num,by rw [HS.out];exact HB.out.right,QB.out⟩
      case measure=>simp [intOf];omega
    ·have hb0:(a0==0)=false:=by simpa using h0
     have hst:=HST.out
     simp only [h0,decide_true,decide_false,Bool.and_false,Bool.false_and,Bool.false_eq_true,if_false,List.append_nil] at hst
     have HS:=zH hst
     clear hst HST h0
     go_wp2_with fail
     go_roundw
     case rel=>exact ⟨k+1,by omega,by go_num,by rw [HS.out];exact HB.out.right,QB.out⟩
     case measure=>simp [intOf];omega
   ·have hb2:(kd==2)=false:=by simpa using h2
    have hst:=HST.out
    simp only [h2,decide_false,Bool.false_and,Bool.false_eq_true,if_false,List.append_nil] at hst
    have HS:=zH hst
    clear hst HST h2
    go_wp2_with fail
    go_roundw
    case rel=>exact ⟨k+1,by omega,by go_num,by rw [HS.out];exact HB.out.right,QB.out⟩
    case measure=>simp [intOf];omega
  ·obtain rfl:k=E.length:=by omega
   go_wp2_with fail
   refine (clip_any _ _ _ _ hh.own).mono ?_
   rintro e w2 ⟨v',rfl,rfl,ho,hb⟩
   go_wp2
   go_ret
   exact ⟨_,rfl,hq,by rw [List.take_length] at hh ho;exact hh.reOwn ho hb⟩
theorem holders_sl (v:Value) (E:List Ev) (j:Int) (w:World) (h:RowAt w v E.length (evvs E)) (hl:E.length≤20000) {R:HP} (hr:Holds w R):Calls Tryz.prog 55 #[v,zI zi j] w (PostX w R (fun v=>v) fun v=>hold v (holders E j)):=
 (holders_any v E j w h hl).mono fun e w' ⟨x,he,hq,hh⟩=>⟨x,he,hq,hh.frame hr⟩
theorem Tryz.infoI64:(Tryz.prog.info? 3).map (fun i=>(i.zero,i.size,i.bytes))=some (some (zI zi 0),1,8):=by kernel_rfl
theorem ev_old_cell {w:World} {g off n c:Nat} {E:List Ev} (h:RowAt w (.slice (some ⟨g,off,none⟩) n c) E.length (evvs E)) {i:Nat} {r:Ev} (hi:E[i]? = some r) {W:World} {A:HP} (hW:Holds W (A*old w)) (j:Nat) (u:Value) (hj:j<14) (hu:(evcells r)[j]? = some u):W.cell? ⟨g,off+i*14+j,none⟩=some u:=by
 have hl:E.length≠0:=by
  intro e
  have:=(List.getElem?_eq_some_iff.1 hi).1
  omega
 obtain ⟨g',off',c',e,_,_,hc⟩:=(h.old hW).get hl
 simp only [Value.slice.injEq,Option.some.injEq,Addr.mk.injEq,and_true] at e
 obtain ⟨⟨rfl,rfl⟩,_,rfl⟩:=e
 exact evvs_cell hc hi j u hj hu
def hint (v:Value) (l:List (Int×Int)):HP:=rw_ 3 1 v (2*l.length) (hvs l)
theorem Holds.nilI {w:World} {A:HP} (h:Holds w A):Holds w (hint (.slice none 0 0) []*A):=h.nilRow _ _
theorem hint_fit {w:World} {v:Value} {R:HP} (acc:List (Int×Int)) (a b:Int) (h:Holds w (rw_ 3 1 v (2*acc.length+2) (hvs acc++[zI zi a,zI zi b])*R)):Holds w (hint v (acc++[(a,b)])*R):=by
 unfold hint
 rw [hvs_append,List.length_append]
 exact h
theorem holdersOf_any (v:Value) (E:List Ev) (j:Int) (w:World) (h:RowAt w v E.length (evvs E)) (hl:E.length≤20000):Calls Tryz.prog 38 #[v,zI zi j] w (PostX w (old w) (fun v=>v) fun v=>hint v (holders E j)):=by
 obtain ⟨a,cc,rfl,-,-⟩:=h.shape
 have HV:=zH h;clear h
 obtain ⟨i0,hi,hz0,hz1,hz2⟩:=info_parts Tryz.infoI64
 have HI:=zH hi;have HZ0:=zH hz0;have HZ1:=zH hz1;have HZ2:=zH hz2
 clear hi hz0 hz1 hz2
 go_enter Tryz.func38,Tryz.ntmps38
 go_wp2_with fail
 go_loopw [5,6] (fun s i wr=>∃ k:Nat,k≤E.length∧i=zI zi k∧Holds wr (hint s (holders (E.take k) j)*old w)∧Quiet w wr) (fun _ i _=>E.length-(intOf i).toNat)
 case atStart=>exact ⟨0,by omega,rfl,Holds.old.nilI,Quiet.refl _⟩
 case round=>
  obtain ⟨k,hk,rfl,hh,hq⟩:=hrel
  have HK:=zH hk
  by_cases hlt:k<E.length
  ·obtain ⟨r,hr⟩:∃ r,E[k]? = some r:=⟨_,List.getElem?_eq_getElem hlt⟩
   obtain ⟨g,off,cx,e,_,_,hc0⟩:=(HV.out.old hh).get (by omega)
   simp only [Value.slice.injEq] at e
   obtain ⟨rfl,_,rfl⟩:=e
   have hst:=holders_step hr j
   obtain ⟨acc,hacc⟩:∃ acc,holders (E.take k) j=acc:=⟨_,rfl⟩
   have hal:acc.length≤20000:=by rw [←hacc];unfold holders;rw [List.length_map];have:=List.length_filter_le (fun e:Ev=>e.has j) (E.take k);rw [List.length_take] at this;omega
   rw [hacc] at hh hst
   obtain ⟨⟨ep2,⟨kd,nw,jb,tr,wk,tm⟩⟩,⟨a0,a1,a2⟩,⟨s1,s2,s3,s4⟩⟩:=r
   have y1:=evvs_cell hc0 hr 1 (zI zi kd) (by omega) rfl
   have y7:=evvs_cell hc0 hr 7 (zI zi a0) (by omega) rfl
   have y8:=evvs_cell hc0 hr 8 (zI zi a1) (by omega) rfl
   have mkS:∀ (W:World) (A:HP),Holds W (A*old w)→W.cell? ⟨g,off+k*14+5,none⟩=some (zI zi wk)∧W.cell? ⟨g,off+k*14+9,none⟩=some (zI zi a2):=fun W A hW=>
    ⟨ev_old_cell HV.out hr hW 5 _ (by omega) rfl,ev_old_cell HV.out hr hW 9 _ (by omega) rfl⟩
   have MKS:=zH mkS
   simp only [Ev.has] at hst
   have HST:=zH hst
   obtain ⟨wo,rfl⟩:∃ wo:World,wo=wr:=⟨_,rfl⟩
   have HH:=zH hh;have HQ:=zH hq
   clear hh hq hr hc0 hacc hst mkS
   by_cases h2:kd=2
   ·subst h2
    by_cases h0:a0=0
    ·subst h0
     by_cases h1:a1=j
     ·subst h1
      have hst:=HST.out
      simp only [decide_true,Bool.and_self,if_true] at hst
      have HS:=zH hst
      clear hst HST
      have hbj:(a1==a1)=true:=by simp
      go_wp2_with fail
      refine wp_region_lex (fun W=>W.cell? ⟨g,off+k*14+5,none⟩=some (zI zi wk)∧W.cell? ⟨g,off+k*14+9,none⟩=some (zI zi a2)) [14,15] (by kernel_rfl) (by kernel_rfl) (MKS.out _ _ HH.out.drew) ?_
      repeat (first|(refine LexL.none (by rfl) ?_;(try simp only [zP,zA,zB,zC]))|(refine LexL.still (v:=?_) (by rfl) ?_ ?_;rotate_left;(focus (intro W hW;(try dsimp only at hW);go_simp;(try (with_reducible rfl));done));(try simp only [zP,zA,zB,zC])))
      have hb:=HH.out.drew.boxRow (e:=3) 1 (n:=2) (cs:=[zI zi wk,zI zi a2]) rfl (ivs_ones [wk,a2]) (by omega) rfl
      have HBX:=zH hb;clear hb
      refine LexL.value (w1:=wo.drew.alloc (.cells #[zI zi wk,zI zi a2] 3)) (v:=.slice (some ⟨wo.drew.heap.size,0,none⟩) 2 2) (by rfl) (by decide) (by go_simp) (MKS.out _ _ (HBX.out.eq (HP.assoc _ _ _).symm)) ?_
      try simp only [zP,zA,zB,zC]
      repeat (first|(refine LexL.none (by rfl) ?_;(try simp only [zP,zA,zB,zC]))|(refine LexL.still (v:=?_) (by rfl) ?_ ?_;rotate_left;(focus (intro W hW;(try dsimp only at hW);go_simp;(try (with_reducible rfl));done));(try simp only [zP,zA,zB,zC])))
      refine LexL.append _ _ 70 rfl 3 i0 _ 1 8 Tryz.underlying70 HI.out HZ0.out HZ1.out HZ2.out rfl (by decide) rfl rfl (by rfl) (by decide) (HBX.out.two) HBX.out.row rfl (ivs_ones [wk,a2]) (by omega) (by omega) ?_
      intro v' w' hv' hq'
      have HV':=zH hv';have HQ':=zH hq';clear hv' hq'
      refine ⟨MKS.out _ _ (HV'.out.eq (HP.assoc _ _ _).symm),?_⟩
      try simp only [zP,zA,zB,zC]
      repeat (first|(refine LexL.none (by rfl) ?_;(try simp only [zP,zA,zB,zC]))|(refine LexL.still (v:=?_) (by rfl) ?_ ?_;rotate_left;(focus (intro W hW;(try dsimp only at hW);go_simp;(try (with_reducible rfl));done));(try simp only [zP,zA,zB,zC])))
      refine LexL.done ?_
      go_wp2_with fail
      go_roundw
      case rel=>exact ⟨k+1,by omega,by go_num,by rw [HS.out];exact (hint_fit acc wk a2 HV'.out).two.right,((HQ.out.drew.alloc _).trans HQ'.out)⟩
      case measure=>simp [intOf];omega
     ·have hbj:(a1==j)=false:=by simpa using h1
      have hst:=HST.out
      simp only [h1,decide_true,decide_false,Bool.and_false,Bool.false_eq_true,if_false,List.append_nil] at hst
      have HS:=zH hst
      clear hst HST h1
      go_wp2_with fail
      go_roundw
      case rel=>exact ⟨k+1,by omega,by go_num,by rw [HS.out];exact HH.out,HQ.out⟩
      case measure=>simp [intOf];omega
    ·have hb0:(a0==0)=false:=by simpa using h0
     have hst:=HST.out
     simp only [h0,decide_true,decide_false,Bool.and_false,Bool.false_and,Bool.false_eq_true,if_false,List.append_nil] at hst
     have HS:=zH hst
     clear hst HST h0
     go_wp2_with fail
     go_roundw
     case rel=>exact ⟨k+1,by omega,by go_num,by rw [HS.out];exact HH.out,HQ.out⟩
     case measure=>simp [intOf];omega
   ·have hb2:(kd==2)=false:=by simpa using h2
    have hst:=HST.out
    simp only [h2,decide_false,Bool.false_and,Bool.false_eq_true,if_false,List.append_nil] at hst
    have HS:=zH hst
    clear hst HST h2
    go_wp2_with fail
    go_roundw
    case rel=>exact ⟨k+1,by omega,by go_num,by rw [HS.out];exact HH.out,HQ.out⟩
    case measure=>simp [intOf];omega
  ·obtain rfl:k=E.length:=by omega
   go_wp2
   go_ret
   exact ⟨_,rfl,hq,by rw [List.take_length] at hh;exact hh⟩
theorem holdersOf_sl (v:Value) (E:List Ev) (j:Int) (w:World) (h:RowAt w v E.length (evvs E)) (hl:E.length≤20000) {R:HP} (hr:Holds w R):Calls Tryz.prog 38 #[v,zI zi j] w (PostX w R (fun v=>v) fun v=>hint v (holders E j)):=
 (holdersOf_any v E j w h hl).mono fun e w' ⟨x,he,hq,hh⟩=>⟨x,he,hq,hh.frame hr⟩
end Go.Proofs.YtfihmpkkpgmdhaaGreatDoor
section
namespace Go.Proofs.YtfihmpkkpgmdhaaGreatDoor
open Go
section
variable {P:Program} {ops:Array Oper} {S:World→Prop} {path:List Nat} {fz:Nat→Option (TypeId×List Value)} {Q:Exit→Act→World→Prop} {w0:World}
variable {o:Oper} {i:Nat} {rest:List Oper} {a:Act} {A:HP}
theorem exec_load_part {w:World} (ty:TypeId) (x:Operand) (ho:o.op=.load ty x) (g off:Nat) (hx:a.eval x=.pointer (some ⟨g,off,none⟩)) {t:TypeId} {cs:List Value} (vs:List Value) {d:TypeDesc} (hb:BlockAt w g t cs) (hvs:(cs.drop off).take vs.length=vs)
  (hu:P.underlying ty=some d) (hd:(match d with | .struct _ | .array _ _=>true|_=>false)=true) (hi:(P.info? ty).map (·.size)=some vs.length):(execOp a.eval o).run P w=.ok (.value (.agg vs.toArray)) w:=by
 unfold execOp
 simp only [ho,hx,Instr.loadAt,Instr.sureAddr,Sem.run_bind,Sem.run_pure,Result.andThen_ok,run_load_part hb hvs hu hd hi]
theorem exec_store_part {w:World} (ty:TypeId) (x y:Operand) (ho:o.op=.store ty x y) (g off:Nat) (vs:List Value) (hx:a.eval x=.pointer (some ⟨g,off,none⟩)) (hy:a.eval y=.agg vs.toArray) {t:TypeId} {cs:List Value} (hb:BlockAt w g t cs) (hfit:off+vs.length≤cs.length)
  (hi:(P.info? ty).map (·.size)=some vs.length) (h1:Ones vs):∃ w',(execOp a.eval o).run P w=.ok .skip w'∧BlockAt w' g t (cs.take off++vs++cs.drop (off+vs.length))∧w.grownBy w' (some g):=by
 refine ⟨_,?_,hb.setRow _,grown_setRow (grown_refl w _) _⟩
 unfold execOp
 simp only [ho,hx,hy,Instr.storeAt,Instr.sureAddr,Sem.run_bind,Sem.run_pure,Result.andThen_ok,run_store_part hb hfit hi h1]
theorem LexHL.load (ty:TypeId) (x:Operand) (ho:o.op=.load ty x) (g off:Nat) (hx:a.eval x=.pointer (some ⟨g,off,none⟩)) {t:TypeId} {cs:List Value} (vs:List Value) {d:TypeDesc} (hb:∀ w,S w→BlockAt w g t cs) (hvs:(cs.drop off).take vs.length=vs)
  (hu:P.underlying ty=some d) (hd:(match d with | .struct _ | .array _ _=>true|_=>false)=true) (hi:(P.info? ty).map (·.size)=some vs.length) (hf:fz i=none) (hw:Region.wanted o (yielded ops a.tmps)=true)
  (h:LexHL P ops S path fz Q w0 (i+1) rest (a.put o.dst (.agg vs.toArray)) A):LexHL P ops S path fz Q w0 i (o::rest) a A:=
 LexHL.still hf hw (fun w hS=>exec_load_part ty x ho g off hx vs (hb w hS) hvs hu hd hi) h
theorem LexHL.storeB {q:Nat} {t:TypeId} {cs:List Value} {B:HP} (ty:TypeId) (x y:Operand) (ho:o.op=.store ty x y) (vs:List Value) (hx:a.eval x=.pointer (some ⟨q,0,none⟩)) (hy:a.eval y=.agg vs.toArray) (hlen:vs.length=cs.length)
  (hi:(P.info? ty).map (·.size)=some vs.length) (h1:Ones vs) (hf:fz i=none) (hw:Region.wanted o (yielded ops a.tmps)=true) (hp:i∈path) (hA:A=bl q t cs*B) (hS:∀ w R,Holds w (bl q t vs*B*R)→S w)
  (h:LexHL P ops S path fz Q w0 (i+1) rest (a.put o.dst undef) (bl q t vs*B)):LexHL P ops S path fz Q w0 i (o::rest) a A:=by
 subst hA
 refine LexHL.store (w1:=id) hf hw hp (fun w R hSw hq hA=>?_) h
 have hA':Holds w (bl q t cs*(B*R)):=hA.eq (by ac_rfl)
 obtain ⟨w',e,hb,hg⟩:=exec_store_part (P:=P) ty x y ho q 0 vs hx hy hA'.bl (by omega) hi h1
 have hb':BlockAt w' q t vs:=by simpa [hlen] using hb
 have hB:=(hA'.grown hg hb').eq (show bl q t vs*(B*R)=bl q t vs*B*R from by ac_rfl)
 exact ⟨w',e,hS _ _ hB,hq.trans (Quiet.grown hg),hB⟩
def fz2 (i1:Nat) (ty1:TypeId) (cs1:List Value) (i2:Nat) (ty2:TypeId) (cs2:List Value):Nat→Option (TypeId×List Value):=fun i=>if i=i1 then some (ty1,cs1) else if i=i2 then some (ty2,cs2) else none
theorem fz2_fl {i1 i2:Nat} {ty1 ty2:TypeId} {cs1 cs2:List Value}:∀ i,fz2 i1 ty1 cs1 i2 ty2 cs2 i≠none→i∈[i1,i2]:=fun i h=>by
 unfold fz2 at h
 split at h
 ·subst_vars;simp
 ·split at h
  ·subst_vars;simp
  ·exact absurd rfl h
theorem fz2_no {i1 i2:Nat} {ty1 ty2:TypeId} {cs1 cs2:List Value}:∀ i∈[i1,i2],fz2 i1 ty1 cs1 i2 ty2 cs2 i≠none:=fun i h=>by
 unfold fz2
 simp only [List.mem_cons,List.not_mem_nil,or_false] at h
 split
 ·simp
 ·split
  ·simp
  ·omega
def MadeBy (P:Program) (o:Oper) (ty:TypeId) (cs:List Value):Prop:=o.guard=none∧∀ (a:Act) (w:World),(execOp a.eval o).run P w=.ok (.value (.pointer (some ⟨w.heap.size,0,none⟩))) (w.alloc (.cells cs.toArray ty))
theorem fz2_ok {i1 i2:Nat} {o1 o2:Oper} {ty1 ty2:TypeId} {cs1 cs2:List Value} (h1:ops[i1]? = some o1) (r1:MadeBy P o1 ty1 cs1) (h2:ops[i2]? = some o2) (r2:MadeBy P o2 ty2 cs2):FzOk P ops (fz2 i1 ty1 cs1 i2 ty2 cs2):=fun i ty cs h o ho=>by
 unfold fz2 at h
 split at h
 ·subst_vars
  simp only [Option.some.injEq,Prod.mk.injEq] at h
  obtain ⟨rfl,rfl⟩:=h
  rw [h1] at ho
  obtain rfl:=Option.some.inj ho
  exact r1
 ·split at h
  ·subst_vars
   simp only [Option.some.injEq,Prod.mk.injEq] at h
   obtain ⟨rfl,rfl⟩:=h
   rw [h2] at ho
   obtain rfl:=Option.some.inj ho
   exact r2
  ·cases h
end
end Go.Proofs.YtfihmpkkpgmdhaaGreatDoor
end
namespace Go.Proofs.YtfihmpkkpgmdhaaGreatDoor
open Go.RowKit
open Go.Lib renaming hid → zH
open Go.Value renaming int → zI
open Go.IntKind renaming i64 → zi
theorem bdid_give (t:Tbl) (nw tr wk tm:Int) (q:Nat) (w:World) (hok:t.Ok) (ho:chk ⟨5,nw,(q:Int),tr,wk,tm⟩=0) (hq6:q<6) (h1:((t.pass nw).jobs q).st=2) (h2:((t.pass nw).jobs q).wk=wk) (h3:((t.pass nw).jobs q).tr=tr):Calls Tryz.prog 93 #[.agg (tcells t).toArray,.agg #[zI zi 5,zI zi nw,zI zi (q:Int),zI zi tr,zI zi wk,zI zi tm]] w (DidPost w (t.did ⟨5,nw,(q:Int),tr,wk,tm⟩)):=by
 have HO:=zH ho;clear ho
 have hok':=pass_ok hok (chk_more HO.out).1.2
 have HOK:=zH hok';clear hok hok'
 have htm0:=(chk_zero HO.out).2.2.2.1
 have htm1:=(chk_zero HO.out).2.2.2.2
 dsimp only at htm0 htm1
 obtain ⟨X,hX⟩:∃ X,t.did ⟨5,nw,(q:Int),tr,wk,tm⟩=X:=⟨_,rfl⟩
 rw [hX]
 have HX:=zH hX;clear hX
 have h0:=((((Holds.old (w:=w)).boxB (ty:=96) (cs:=tcells t) rfl).boxB (ty:=84) (cs:=[zI zi 5,zI zi nw,zI zi (q:Int),zI zi tr,zI zi wk,zI zi tm]) (g:=w.heap.size+1) (by simp)).boxB (ty:=96) (cs:=tcells Tbl.zero) (g:=w.heap.size+1+1) (by simp)).boxB (ty:=88) (cs:=[zI zi 0,zI zi 0,zI zi 0]) (g:=w.heap.size+1+1+1) (by simp)
 have H0:=zH h0;clear h0
 have q0:=((((Quiet.refl w).alloc (.cells (tcells t).toArray 96)).alloc (.cells ([zI zi 5,zI zi nw,zI zi (q:Int),zI zi tr,zI zi wk,zI zi tm]:List Value).toArray 84)).alloc (.cells (tcells Tbl.zero).toArray 96)).alloc (.cells ([zI zi 0,zI zi 0,zI zi 0]:List Value).toArray 88)
 have Q0:=zH q0;clear q0
 go_enter Tryz.func93,Tryz.ntmps93
 go_wp2_with fail
 refine (ofault_any 5 nw (q:Int) tr wk tm _).mono ?_
 rw [HO.out]
 rintro e w1 ⟨rfl,hb1⟩
 have H1:=zH (H0.out.below hb1);have Q1:=zH (Q0.out.trans (Quiet.below hb1));clear hb1 H0 Q0
 have x1:=H1.out.right.right.bl.cells
 have HS0:=zH H1.out.right.right.right.bl
 go_wp2_with (refine wpList_load_whole rfl 96 _ rfl w.heap.size rfl (tcells t) HS0.out Tryz.underlying96 rfl (by kernel_rfl) ?_)
 refine (later_any t nw _).mono ?_
 rintro e w2 ⟨rfl,hb2⟩
 obtain ⟨P,hP⟩:∃ P,t.pass nw=P:=⟨_,rfl⟩
 rw [hP]
 have HP:=zH hP;clear hP
 have H2:=zH (H1.out.below hb2);have Q2:=zH (Q1.out.trans (Quiet.below hb2));clear hb2 x1 HS0 H1 Q1
 rw [HP.out] at HOK
 have hn0:=HOK.out.now.1
 have hn1:=HOK.out.now.2
 obtain ⟨⟨s0,k0,r0,u0⟩,hJ⟩:∃ J,P.jobs q=J:=⟨_,rfl⟩
 have HJ:=zH hJ
 rw [HP.out,hJ] at h1 h2 h3
 dsimp only at h1 h2 h3
 have hs0:(s0==0)=false:=by rw [h1];rfl
 have hs2:(s0 != 2)=false:=by rw [h1];rfl
 have hs3:(k0 != wk)=false:=by rw [h2];simp
 have hs4:(r0 != tr)=false:=by rw [h3];simp
 have hx:X=((P.set q { P.jobs q with un:=P.now }).pass P.now,⟨0,0,0⟩):=by
  rw [←HX.out]
  refine did_of HO.out ?_ rfl
  dsimp only
  rw [HP.out]
  rw [act_held _ _ _ _ _ _ _ (by simpa [hJ] using h1) (by simpa [hJ] using h2) (by simpa [hJ] using h3) (by simp)];simp
 subst hx
 have HS1:=zH h1;have HS2:=zH h2;have HS3:=zH h3;clear h1 h2 h3
 clear hJ
 go_upto_region 14 with (refine wpList_store_whole rfl 96 _ _ rfl w2.heap.size (tcells P) rfl rfl (BlockAt.new w2 96 (tcells Tbl.zero)) (by simp [tcells_len]) (by kernel_rfl) (tcells_ones P) ?_;intro w3 h1' h2' h3';have H3:=zH ((H2.out.allocB 96 (tcells Tbl.zero)).grown h2' h1');have Q3:=zH ((Q2.out.alloc (.cells (tcells Tbl.zero).toArray 96)).trans (Quiet.grown h2'));have x1:=H3.out.right.right.right.bl.cells;have HS4:=zH H3.out.bl;clear h1' h2' h3')
 obtain ⟨c0,c1,c2,c3⟩:=HS4.out.job hq6
 rw [HJ.out] at c0 c1 c2 c3
 dsimp only at c0 c1 c2 c3
 go_upto_region 15 with fail
 have h4:=(H3.out.boxB (ty:=92) (cs:=[zI zi s0,zI zi k0,zI zi r0,zI zi u0]) rfl)
 have q4:=(Q3.out.alloc (.cells ([zI zi s0,zI zi k0,zI zi r0,zI zi u0]:List Value).toArray 92))
 obtain ⟨w4,hw4⟩:∃ w4,w3.alloc (.cells ([zI zi s0,zI zi k0,zI zi r0,zI zi u0]:List Value).toArray 92)=w4:=⟨_,rfl⟩
 obtain ⟨bj,hbj⟩:∃ bj,w3.heap.size=bj:=⟨_,rfl⟩
 obtain ⟨b4,hb4⟩:∃ b4,w2.heap.size=b4:=⟨_,rfl⟩
 rw [hw4,hbj] at h4
 rw [hb4] at h4
 rw [hw4] at q4
 have hw4':w3.alloc (.cells #[zI zi s0,zI zi k0,zI zi r0,zI zi u0] 92)=w4:=hw4
 rw [hw4',hbj,hb4]
 clear c0 c1 c2 c3 HS4 x1 hw4 hw4' hbj hb4 H3 Q3 H2 Q2
 have x1:=h4.right.right.right.right.bl.cells
 have xj:=h4.bl.cells
 have HS4:=zH h4.two.bl
 have f4:=HS4.out.frees
 have l4:=HS4.out.lt
 have lj:=h4.bl.lt
 obtain ⟨c0,c1,c2,c3⟩:=HS4.out.job hq6
 rw [HJ.out] at c0 c1 c2 c3
 dsimp only at c0 c1 c2 c3
 have H4:=zH h4;have Q4:=zH q4;clear h4 q4
 have c24:=HS4.out.cell 24 _ rfl
 go_upto_region 26 with fail
 have hg:Holds (w4.setCell ⟨b4,q*4+3,none⟩ (zI zi P.now)) _:=Holds.setUnN H4.out.two hq6 P.now
 have qg:=Q4.out.setCell ⟨b4,q*4+3,none⟩ (zI zi P.now)
 obtain ⟨PT,hPT⟩:∃ PT,P.set q { P.jobs q with un:=P.now }=PT:=⟨_,rfl⟩
 obtain ⟨we,hwe⟩:∃ we,w4.setCell ⟨b4,q*4+3,none⟩ (zI zi P.now)=we:=⟨_,rfl⟩
 rw [hwe,hPT] at hg
 rw [hwe] at qg ⊢
 have hpn:PT.now=P.now:=by rw [←hPT];rfl
 have HG:=zH hg;have QG:=zH qg;have HPT:=zH hPT
 clear hg qg hPT hwe x1 xj f4 l4 lj HS4 c0 c1 c2 c3 c24
 have c24:=HG.out.tb.cell 24 _ rfl
 rw [hpn] at c24
 clear hpn
 go_wp2_with (refine wpList_load_whole rfl 96 _ rfl b4 rfl (tcells PT) HG.out.tb Tryz.underlying96 rfl (by kernel_rfl) ?_)
 refine (later_any PT P.now _).mono ?_
 rintro e w5 ⟨rfl,hb5⟩
 obtain ⟨PU,hPU⟩:∃ PU,PT.pass P.now=PU:=⟨_,rfl⟩
 rw [hPU]
 have HPU:=zH hPU
 have H5:=zH (HG.out.below hb5);have Q5:=zH (QG.out.trans (Quiet.below hb5));clear hb5 hPU c24 HG QG
 go_upto_region 31 with (refine wpList_store_whole rfl 96 _ _ rfl b4 (tcells PU) rfl rfl H5.out.bl (by simp [tcells_len]) (by kernel_rfl) (tcells_ones PU) ?_;intro w6 h1' h2' h3';have H6:=zH (H5.out.grown h2' h1');have Q6:=zH (Q5.out.trans (Quiet.grown h2'));clear h1' h2' h3')
 go_wp2_with (first|(refine wpList_load_whole rfl 96 _ rfl b4 rfl (tcells PU) H6.out.bl Tryz.underlying96 rfl (by kernel_rfl) ?_)|(refine wpList_store_whole rfl 96 _ _ rfl (w.heap.size+1+1) (tcells PU) rfl rfl H6.out.four.bl (by simp [tcells_len]) (by kernel_rfl) (tcells_ones PU) ?_;intro w' h1' h2' h3';have HE:=zH (H6.out.four.grown h2' h1').four;have QE:=zH (Quiet.grown h2');have fe:=HE.out.bl.frees;have ce:=HE.out.bl.cells;have le:=HE.out.bl.lt;clear h1' h2' h3'))
 have hf:=((HE.out.setB 0 (zI zi 0)).setB 1 (zI zi 0)).setB 2 (zI zi 0)
 have hl1:=run_load_part (P:=Tryz.prog) (off:=0) (ty:=88) (vs:=[zI zi 0,zI zi 0,zI zi 0]) hf.bl rfl Tryz.underlying88 rfl (by kernel_rfl)
 have hl2:=run_load_part (P:=Tryz.prog) (off:=0) (ty:=96) (vs:=tcells PU) hf.two.bl (by simp) Tryz.underlying96 rfl (by kernel_rfl)
 exact bodyPost_ret (results_cell2 rfl rfl rfl hl2 hl1) rfl ⟨by rw [←HPU.out,←HPT.out],hf.right.right.right.right.right.right.toBelow' ((((Q6.out.trans QE.out).setCell _ _).setCell _ _).setCell _ _)⟩
end Go.Proofs.YtfihmpkkpgmdhaaGreatDoor
