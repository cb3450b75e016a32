/-
  What the proof of DeskDoes leans on: definitions, laws, contracts of functions. No condition besides those that each theorem names.
-/
import Derived.Test.YtfihmpkkpgmdhaaGreatDoorZD09
import Derived.Test.YtfihmpkkpgmdhaaGreatDoorZD07
import Derived.Test.YtfihmpkkpgmdhaaGreatDoorZD01
import Derived.Test.YtfihmpkkpgmdhaaGreatDoorZD04
set_option maxRecDepth 100000
set_option maxHeartbeats 16000000
set_option linter.unusedVariables false
set_option linter.unusedSimpArgs false
set_option linter.unnecessarySimpa false
namespace Go.Proofs.YtfihmpkkpgmdhaaGreatDoor
open Go.RowKit
open Go.Lib renaming hid → zH
open Go.Value renaming int → zI
open Go.IntKind renaming i64 → zi
theorem do_no (b:Nat) (tb:Tbl) (c n j t k m:Int) (w:World) (h:TableAt w b tb) (ho:chk ⟨c,n,j,t,k,m⟩≠0) :
  Calls Tryz.prog 79 #[.pointer (some ⟨b,0,none⟩),.agg #[zI zi c,zI zi n,zI zi j,zI zi t,zI zi k,zI zi m]] w (AnsPost w b (tb.did ⟨c,n,j,t,k,m⟩)):=by
 rw [did_no ho]
 generalize hC:chk ⟨c,n,j,t,k,m⟩=C at *
 have HC:=zH hC;clear hC
 have hc1:(C != 0)=true:=by simpa using ho
 clear ho
 have hlt:=h.lt
 have H:=zH h;clear h
 go_enter Tryz.func79,Tryz.ntmps79
 go_wp2_with fail
 refine (check_any c n j t k m _).mono ?_
 rw [HC.out]
 rintro e w' ⟨rfl,hb⟩
 have hx:=(BlockAt.new (w.alloc (.cells #[zI zi c,zI zi n,zI zi j,zI zi t,zI zi k,zI zi m] 84)) 88 [zI zi 0,zI zi 0,zI zi 0]).below hb (by simp)
 simp only [World.size_alloc] at hx
 have k1:=hx.cells
 have k2:=hx.frees
 have HB:=zH hb;clear hb
 have HX:=zH hx;clear hx
 go_wp2
 refine bodyPost_ret (v:=.agg #[zI zi C,zI zi 0,zI zi 0]) (by simp [results,Tryz.results79,go_sem,k1]) rfl ⟨rfl,?_,?_⟩
 ·have h1:=grown_then (grown_alloc (grown_alloc (grown_refl w (some b)) _) _) (below_grown HB.out _) (.inl rfl)
  repeat (first|with_reducible exact h1|refine grown_setNew ?_ (by simp) _)
 ·unfold TableAt
  refine BlockAt.setOther (BlockAt.setOther (BlockAt.setOther ?_ (by simp;omega) _) (by simp;omega) _) (by simp;omega) _
  exact ((BlockAt.alloc H.out _).alloc _).below HB.out (by simp;omega)
structure DoAt (w W:World) (b y:Nat) (tb t2:Tbl) (o:Ord):Prop where
 x0:BlockAt W w.heap.size 84 [zI zi o.kind,zI zi o.now,zI zi o.job,zI zi o.tr,zI zi o.wk,zI zi o.tm]
 x1:BlockAt W (w.heap.size+1) 88 [zI zi 0,zI zi 0,zI zi 0]
 x6:BlockAt W y 146 (tcells tb)
 l6:w.heap.size+1<y
 t:TableAt W b t2
 lt:b<w.heap.size
 g:w.grownBy W (some b)
theorem DoAt.step {w W W':World} {b y:Nat} {tb t2 t3:Tbl} {o:Ord} (h:DoAt w W b y tb t2 o) (hg:W.grownBy W' (some b)) (ht:TableAt W' b t3):DoAt w W' b y tb t3 o:=
 have hlt:=h.lt
 have l6:=h.l6
 ⟨h.x0.other hg (by simp;omega),h.x1.other hg (by simp;omega),h.x6.other hg (by simp;omega),h.l6,ht,h.lt,grown_then h.g hg (.inl rfl)⟩
theorem do_yes (b:Nat) (tb:Tbl) (c n j t k m:Int) (w:World) (h:TableAt w b tb) (hok:tb.Ok) (ho:chk ⟨c,n,j,t,k,m⟩=0) :
  Calls Tryz.prog 79 #[.pointer (some ⟨b,0,none⟩),.agg #[zI zi c,zI zi n,zI zi j,zI zi t,zI zi k,zI zi m]] w (AnsPost w b (tb.did ⟨c,n,j,t,k,m⟩)):=by
 rw [did_yes ho]
 have hpk:=pass_ok hok (chk_now ho).2
 generalize hX:(tb.pass n).act ⟨c,n,j,t,k,m⟩=X at *
 obtain ⟨Z,hZ⟩:∃ Z,(if X.2.code≠0 then (tb,X.2) else X)=Z:=⟨_,rfl⟩
 rw [hZ]
 have HZ:=zH hZ;clear hZ
 have HC:=zH ho
 have HP:=zH hpk;clear hpk
 have HYtfihmpkkpgmdhaaGreatDoor:=zH hX;clear hX
 have hlt:=h.lt
 have H:=zH h;clear h
 clear ho hok
 go_enter Tryz.func79,Tryz.ntmps79
 go_wp2_with fail
 refine (check_any c n j t k m _).mono ?_
 rw [HC.out]
 rintro e w1 ⟨rfl,hb1⟩
 have x0:=(BlockAt.alloc (BlockAt.new w 84 [zI zi c,zI zi n,zI zi j,zI zi t,zI zi k,zI zi m]) (.cells #[zI zi 0,zI zi 0,zI zi 0] 88)).below hb1 (by simp<;>omega)
 have x1:=(BlockAt.new (w.alloc (.cells #[zI zi c,zI zi n,zI zi j,zI zi t,zI zi k,zI zi m] 84)) 88 [zI zi 0,zI zi 0,zI zi 0]).below hb1 (by simp)
 simp only [World.size_alloc] at x1
 have xt:=((BlockAt.alloc H.out _).alloc _).below hb1 (by simp;omega)
 have g1:=grown_below (grown_alloc (grown_alloc (grown_refl w (some b)) _) _) hb1
 have hs1:=g1.size
 have l1:=x1.lt
 clear hb1
 have X0:=zH x0;have X1:=zH x1;have XT:=zH xt;have G1:=zH g1;clear x0 x1 xt g1
 go_wp2_with (first|(refine wpList_load_whole rfl 146 _ rfl b rfl (tcells tb) XT.out Tryz.underlying146 rfl (by kernel_rfl) ?_)|(refine wpList_store_whole rfl 146 _ _ rfl w1.heap.size (tcells tb) rfl rfl (BlockAt.new w1 146 (tcells Tbl.zero)) (by simp [tcells_len]) (by kernel_rfl) (tcells_ones tb) ?_;intro w2 x6 g2 z2;have D:DoAt w w2 b w1.heap.size tb tb ⟨c,n,j,t,k,m⟩:=⟨(BlockAt.alloc X0.out _).other g2 (by simp;omega),(BlockAt.alloc X1.out _).other g2 (by simp;omega),x6,by omega,(BlockAt.alloc XT.out _).other g2 (by simp;omega),hlt,grown_far (grown_alloc G1.out _) g2 (by omega)⟩;have k0:=D.x0.cells;have HD:=zH D;clear D x6 g2 z2))
 refine (pass_any b tb _ _ HD.out.t).mono ?_
 rintro e w3 ⟨rfl,g3,t3⟩
 have D:=HD.out.step g3 t3
 clear k0 g3 t3 HD
 have k0:=D.x0.cells
 have HD:=zH D;clear D
 go_wp2_with fail
 refine (act_any b (tb.pass n) ⟨c,n,j,t,k,m⟩ _ HD.out.t HP.out HC.out).mono ?_
 rw [HYtfihmpkkpgmdhaaGreatDoor.out]
 rintro e w4 ⟨rfl,g4,t4⟩
 have D:=HD.out.step g4 t4
 clear k0 g4 t4 HD
 have hs4:=D.g.size
 have k1:=D.x1.cells
 have f1:=D.x1.frees
 have l1:=D.x1.lt
 have lx:=D.x6.lt
 have HD:=zH D;clear D
 by_cases hx:X.2.code=0
 ·have hx1:(X.2.code != 0)=false:=by simpa using hx
  have e:Z=X:=by rw [←HZ.out];simp [hx]
  subst e
  clear hx
  go_wp2
  refine bodyPost_ret (v:=.agg #[zI zi Z.2.code,zI zi Z.2.job,zI zi Z.2.tr]) (by simp [results,Tryz.results79,go_sem,k1,l1]) rfl ⟨rfl,?_,?_⟩
  ·repeat (first|with_reducible exact HD.out.g|with_reducible refine grown_alloc ?_ _|refine grown_setNew ?_ (by simp) _)
  ·unfold TableAt
   repeat (first|with_reducible exact HD.out.t|with_reducible refine BlockAt.alloc ?_ _|refine BlockAt.setOther ?_ (by simp;omega) _)
   exact HD.out.t
 ·have hx1:(X.2.code != 0)=true:=by simpa using hx
  have e:Z=(tb,X.2):=by rw [←HZ.out];simp [hx]
  subst e
  clear hx
  go_wp2_with (first|(refine wpList_load_whole rfl 146 _ rfl w1.heap.size rfl (tcells tb) (BlockAt.alloc HD.out.x6 _) Tryz.underlying146 rfl (by kernel_rfl) ?_)|(refine wpList_store_whole rfl 146 _ _ rfl b (tcells tb) rfl rfl (BlockAt.alloc HD.out.t _) (by simp [tcells_len]) (by kernel_rfl) (tcells_ones tb) ?_;intro w5 t5 g5 z5;have k1:=(BlockAt.other (BlockAt.alloc HD.out.x1 _) g5 (by simp;omega)).cells;have f1:=(BlockAt.other (BlockAt.alloc HD.out.x1 _) g5 (by simp;omega)).frees;have k7:=(BlockAt.other (BlockAt.new w4 88 [zI zi X.2.code,zI zi X.2.job,zI zi X.2.tr]) g5 (by simp;omega)).cells;have G5:=zH (grown_then (grown_alloc HD.out.g _) g5 (.inl rfl));have T5:=zH t5;simp only [World.size_alloc] at z5;clear g5 t5))
  refine bodyPost_ret (v:=.agg #[zI zi X.2.code,zI zi X.2.job,zI zi X.2.tr]) (by simp [results,Tryz.results79,go_sem,k1]) rfl ⟨rfl,?_,?_⟩
  ·repeat (first|with_reducible exact G5.out|with_reducible refine grown_alloc ?_ _|refine grown_setNew ?_ (by simp) _)
  ·unfold TableAt
   repeat (first|with_reducible exact T5.out|with_reducible refine BlockAt.alloc ?_ _|refine BlockAt.setOther ?_ (by simp;omega) _)
theorem do_any (b:Nat) (tb:Tbl) (c n j t k m:Int) (w:World) (h:TableAt w b tb) (hok:tb.Ok) :
  Calls Tryz.prog 79 #[.pointer (some ⟨b,0,none⟩),.agg #[zI zi c,zI zi n,zI zi j,zI zi t,zI zi k,zI zi m]] w (AnsPost w b (tb.did ⟨c,n,j,t,k,m⟩)):=by
 by_cases ho:chk ⟨c,n,j,t,k,m⟩=0
 ·exact do_yes b tb c n j t k m w h hok ho
 ·exact do_no b tb c n j t k m w h ho
def tb (b:Nat) (ty:TypeId) (t:Tbl):HP:=bl b ty (tcells t)
theorem Holds.setJob {w:World} {b:Nat} {ty:TypeId} {t:Tbl} {A:HP} (h:Holds w (tb b ty t*A)) {k:Nat} (hk:k<6) (j:Job) :
  Holds ((((w.setCell ⟨b,k*4,none⟩ (zI zi j.st)).setCell ⟨b,k*4+1,none⟩ (zI zi j.wk)).setCell ⟨b,k*4+2,none⟩ (zI zi j.tr)).setCell ⟨b,k*4+3,none⟩ (zI zi j.un)) (tb b ty (t.set k j)*A):=by
 unfold tb
 rw [←tcells_set t k hk j,Nat.mul_comm k 4]
 exact (((h.setB _ _).setB _ _).setB _ _).setB _ _
theorem tcells_st (t:Tbl) (i:Nat) (hi:i<6) (j:Job) (s:Int):(tcells (t.set i j)).set (4*i) (zI zi s)=tcells (t.set i { j with st:=s }):=by
 match i,hi with
 | 0,_|1,_|2,_|3,_|4,_|5,_=>rfl
theorem Holds.setStN {w:World} {b:Nat} {ty:TypeId} {t:Tbl} {A:HP} {k:Nat} {j:Job} (h:Holds w (tb b ty (t.set k j)*A)) (hk:k<6) (s:Int) :
  Holds (w.setCell ⟨b,k*4,none⟩ (zI zi s)) (tb b ty (t.set k { j with st:=s })*A):=by
 unfold tb
 rw [←tcells_st t k hk j s,Nat.mul_comm k 4]
 exact h.setB _ _
theorem Holds.setUnN {w:World} {b:Nat} {ty:TypeId} {t:Tbl} {A:HP} {k:Nat} (h:Holds w (tb b ty t*A)) (hk:k<6) (u:Int) :
  Holds (w.setCell ⟨b,k*4+3,none⟩ (zI zi u)) (tb b ty (t.set k { t.jobs k with un:=u })*A):=by
 unfold tb
 rw [←tcells_setUn t k hk u,Nat.mul_comm k 4]
 exact h.setB _ _
theorem Holds.tb {w:World} {b:Nat} {ty:TypeId} {t:Tbl} {A:HP} (h:Holds w (tb b ty t*A)):BlockAt w b ty (tcells t):=h.bl
theorem BlockAt.job {w:World} {b:Nat} {ty:TypeId} {t:Tbl} (h:BlockAt w b ty (tcells t)) {k:Nat} (hk:k<6) :
  w.cell? ⟨b,k*4,none⟩=some (zI zi (t.jobs k).st)∧w.cell? ⟨b,k*4+1,none⟩=some (zI zi (t.jobs k).wk) ∧
  w.cell? ⟨b,k*4+2,none⟩=some (zI zi (t.jobs k).tr)∧w.cell? ⟨b,k*4+3,none⟩=some (zI zi (t.jobs k).un):=by
 rw [Nat.mul_comm]
 obtain ⟨a,b,c,d⟩:=tcells_job t k hk
 exact ⟨h.cell _ _ a,h.cell _ _ b,h.cell _ _ c,h.cell _ _ d⟩
theorem Holds.congrT {w:World} {b:Nat} {ty:TypeId} {t u:Tbl} {A:HP} (h:Holds w (Go.Proofs.YtfihmpkkpgmdhaaGreatDoor.tb b ty t*A)) (hj:∀ i,i<6→t.jobs i=u.jobs i) (hn:t.now=u.now):Holds w (Go.Proofs.YtfihmpkkpgmdhaaGreatDoor.tb b ty u*A):=by
 unfold Go.Proofs.YtfihmpkkpgmdhaaGreatDoor.tb at *
 rwa [←tcells_congr hj hn]
theorem Holds.passSet {w:World} {b:Nat} {ty:TypeId} {t:Tbl} {m:Int} {k:Nat} {A:HP} (h:Holds w (Go.Proofs.YtfihmpkkpgmdhaaGreatDoor.tb b ty ((passTo t m k).set k (expire m (t.jobs k)))*A)):Holds w (Go.Proofs.YtfihmpkkpgmdhaaGreatDoor.tb b ty (passTo t m (k+1))*A):=by
 refine h.congrT (fun i _=>?_) rfl
 simp only [passTo,Tbl.set]
 by_cases h1:i<k
 ·simp [h1,Nat.lt_succ_of_lt h1,show ¬ i=k by omega]
 ·by_cases h2:i=k
  ·subst h2;simp
  ·simp [h1,h2,show ¬ i<k+1 by omega]
theorem Holds.passKeep {w:World} {b:Nat} {ty:TypeId} {t:Tbl} {m:Int} {k:Nat} {A:HP} (h:Holds w (Go.Proofs.YtfihmpkkpgmdhaaGreatDoor.tb b ty (passTo t m k)*A)) (he:expire m (t.jobs k)=t.jobs k):Holds w (Go.Proofs.YtfihmpkkpgmdhaaGreatDoor.tb b ty (passTo t m (k+1))*A):=by
 refine h.congrT (fun i _=>?_) rfl
 simp only [passTo]
 by_cases h1:i<k
 ·simp [h1,Nat.lt_succ_of_lt h1]
 ·by_cases h2:i=k
  ·subst h2;simp [he]
  ·simp [h1,show ¬ i<k+1 by omega]
theorem Holds.passEnd {w:World} {b:Nat} {ty:TypeId} {t:Tbl} {n:Int} {A:HP} (h:Holds w (Go.Proofs.YtfihmpkkpgmdhaaGreatDoor.tb b ty (passTo t (max t.now n) 6)*A)):Holds w (Go.Proofs.YtfihmpkkpgmdhaaGreatDoor.tb b ty (t.pass n)*A):=by
 refine h.congrT (fun i hi=>?_) rfl
 simp [passTo,Tbl.pass,hi]
theorem results_cell1 {P:Program} {fn:Func} {tmps:Array Value} {w:World} {a:Nat} {t:TypeId} {ad:Addr} {v:Value} (hr:fn.results=#[.cell a t]) (ha:tmps.getD a undef=.pointer (some ad)) (hl:(loadVar t ad).run P w=.ok v w):(results fn tmps).run P w=.ok v w:=by
 have h1:(asAddr (.pointer (some ad))).run P w=.ok ad w:=rfl
 have ha':tmps[a]?.getD undef=.pointer (some ad):=by simpa using ha
 unfold results
 rw [hr]
 simp [Sem.run_bind,ha',h1,hl]
theorem results_cell2 {P:Program} {fn:Func} {tmps:Array Value} {w:World} {a b:Nat} {t u:TypeId} {ad bd:Addr} {v x:Value} (hr:fn.results=#[.cell a t,.cell b u]) (ha:tmps.getD a undef=.pointer (some ad)) (hb:tmps.getD b undef=.pointer (some bd)) (hl:(loadVar t ad).run P w=.ok v w) (hk:(loadVar u bd).run P w=.ok x w):(results fn tmps).run P w=.ok (.tuple #[v,x]) w:=by
 have h1:(asAddr (.pointer (some ad))).run P w=.ok ad w:=rfl
 have h2:(asAddr (.pointer (some bd))).run P w=.ok bd w:=rfl
 have ha':tmps[a]?.getD undef=.pointer (some ad):=by simpa using ha
 have hb':tmps[b]?.getD undef=.pointer (some bd):=by simpa using hb
 unfold results
 rw [hr]
 simp [Sem.run_bind,ha',hb',h1,h2,hl,hk]
theorem later_any (t:Tbl) (n:Int) (w:World) :
  Calls Tryz.prog 117 #[.agg (tcells t).toArray,zI zi n] w fun e w'=>e=.returned (.agg (tcells (t.pass n)).toArray)∧Below w.heap.size w w':=by
 have h1:=fun T:Tbl=>(((Holds.old (w:=w)).boxB (ty:=96) (cs:=tcells T) rfl).boxB (ty:=96) (cs:=tcells Tbl.zero) (g:=w.heap.size+1) (by simp)).two
 have H1:=zH h1;clear h1
 have q1:=fun T:Tbl=>((Quiet.refl w).alloc (.cells (tcells T).toArray 96)).alloc (.cells (tcells Tbl.zero).toArray 96)
 have Q1:=zH q1;clear q1
 have h24:(tcells t)[24]? = some (zI zi t.now):=rfl
 obtain ⟨m,hm,hcase⟩:∃ m,Hid (m=max t.now n)∧(t.now<n∧n=m∨n≤t.now∧t.now=m):=⟨_,rfl,by omega⟩
 rcases hcase with ⟨hlt0,hmm⟩|⟨hlt0,hmm⟩
 all_goals
  have HMM:=zH hmm;clear hmm
  go_enter Tryz.func117,Tryz.ntmps117
  go_wp2
  go_loopw [5,6] (fun i _ wr=>∃ k:Nat,k≤6∧i=zI zi k∧Holds wr (tb w.heap.size 96 (passTo t (max t.now n) k)*(bl (w.heap.size+1) 96 (tcells Tbl.zero)*old w))∧Quiet w wr) (fun i _ _=>6-(intOf i).toNat)
  case atStart=>
   first
   | exact ⟨0,by omega,rfl,by have:=H1.out ⟨t.jobs,n⟩;exact Holds.congrT this (fun i _=>by simp [passTo]) (by have:=hm.out;have:=HMM.out;simp only [passTo];omega),Q1.out ⟨t.jobs,n⟩⟩
   | exact ⟨0,by omega,rfl,by have:=H1.out t;exact Holds.congrT this (fun i _=>by simp [passTo]) (by have:=hm.out;have:=HMM.out;simp only [passTo];omega),Q1.out t⟩
  case round=>
   clear hlt0
   obtain ⟨k,hk,rfl,hh,hq⟩:=hrel
   rw [←hm.out] at hh
   by_cases hlt:k<6
   ·obtain ⟨c0,c1,c2,c3⟩:=hh.tb.job hlt
    have c24:=hh.tb.cell 24 _ rfl
    simp only [passTo,Nat.lt_irrefl,if_false] at c0 c1 c2 c3 c24
    have hf:=hh.tb.frees
    have l0:=hh.tb.lt
    have HH:=zH hh;have HQ:=zH hq;clear hh hq
    by_cases hs:(t.jobs k).st=2
    ·have hs1:((t.jobs k).st==2)=true:=by simpa using hs
     have HS:=zH hs;clear hs
     by_cases hu:(t.jobs k).un≤m
     ·by_cases h3:3≤(t.jobs k).tr
      ·go_wp2
       go_roundw
       case rel=>exact ⟨k+1,by omega,by go_num,by rw [←hm.out];refine Holds.passSet ?_;rw [expire,if_pos ⟨HS.out,hu⟩,if_pos h3];exact ((HH.out.setJob hlt ⟨1,0,(t.jobs k).tr,0⟩).setStN hlt 4).alloc _,((((((HQ.out).setCell _ _).setCell _ _).setCell _ _).setCell _ _).setCell _ _).alloc _⟩
       case measure=>simp [intOf];omega
      ·go_wp2
       go_roundw
       case rel=>exact ⟨k+1,by omega,by go_num,by rw [←hm.out];refine Holds.passSet ?_;rw [expire,if_pos ⟨HS.out,hu⟩,if_neg (by omega)];exact (HH.out.setJob hlt ⟨1,0,(t.jobs k).tr,0⟩).alloc _,((((HQ.out.setCell _ _).setCell _ _).setCell _ _).setCell _ _).alloc _⟩
       case measure=>simp [intOf];omega
     ·go_wp2
      go_roundw
      case rel=>exact ⟨k+1,by omega,by go_num,by rw [←hm.out];exact (HH.out.alloc _).passKeep (by rw [expire,if_neg (fun h=>absurd h.2 (by omega))]),HQ.out.alloc _⟩
      case measure=>simp [intOf];omega
    ·have hs1:((t.jobs k).st==2)=false:=by simpa using hs
     have HS:=zH hs;clear hs
     go_wp2
     go_roundw
     case rel=>exact ⟨k+1,by omega,by go_num,by rw [←hm.out];exact (HH.out.alloc _).passKeep (by rw [expire,if_neg (fun h=>HS.out h.1)]),HQ.out.alloc _⟩
     case measure=>simp [intOf];omega
   ·obtain rfl:k=6:=by omega
    rw [hm.out] at hh
    have h6:=hh.passEnd
    have HH:=zH h6;have HQ:=zH hq;clear hh hq h6
    go_wp2_with (first|(refine wpList_load_whole rfl 96 _ rfl w.heap.size rfl (tcells (t.pass n)) HH.out.bl Tryz.underlying96 rfl (by kernel_rfl) ?_)|(refine wpList_store_whole rfl 96 _ _ rfl (w.heap.size+1) (tcells (t.pass n)) rfl rfl HH.out.two.bl (by simp [tcells_len]) (by kernel_rfl) (tcells_ones (t.pass n)) ?_;intro w' h1' h2' h3';have H2:=zH (HH.out.two.grown h2' h1');have Q2:=zH (Quiet.grown h2');have k1:=h1'.cells;clear h1' h2' h3'))
    have hl:=run_load_part (P:=Tryz.prog) (off:=0) (ty:=96) (vs:=tcells (t.pass n)) (H2.out.bl) (by simp) Tryz.underlying96 rfl (by kernel_rfl)
    exact bodyPost_ret (results_cell1 rfl rfl hl) rfl ⟨rfl,H2.out.right.right.toBelow' (HQ.out.trans Q2.out)⟩
end Go.Proofs.YtfihmpkkpgmdhaaGreatDoor
