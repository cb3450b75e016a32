/-
  What the proof of DeskDoes leans on: definitions, laws, contracts of functions. No condition besides those that each theorem names.
-/
import Derived.Test.YtfihmpkkpgmdhaaGreatDoorZD01
import Derived.Test.YtfihmpkkpgmdhaaGreatDoorZD02
import Derived.RegionTactic
import Derived.BigRegion
set_option maxRecDepth 100000
set_option maxHeartbeats 16000000
set_option linter.unusedVariables false
set_option linter.unusedSimpArgs false
set_option linter.unnecessarySimpa false
section
namespace Go.Proofs.YtfihmpkkpgmdhaaGreatDoor
structure GTries (t:Tbl) (tries workers done:Nat→Int):Prop where
 tr:∀ n,n<6→0≤tries n∧tries n≤(t.jobs n).tr
 wk:∀ n,n<6→(t.jobs n).st=2→(t.jobs n).tr=tries n→(t.jobs n).wk=workers n
 d:∀ n,n<6→0≤done n∧done n≤1∧(done n≠0→(t.jobs n).st=3)
theorem GTries.zero:GTries Tbl.zero (fun _=>0) (fun _=>0) (fun _=>0):=
 ⟨fun n _=>⟨Int.le_refl _,Int.le_refl _⟩,fun n _ h=>by simp [Tbl.zero,Job.zero] at h,fun n _=>⟨by omega,by omega,fun h=>absurd rfl h⟩⟩
theorem GTries.any {t:Tbl} {tries workers done:Nat→Int} (h:GTries t tries workers done) (hk:t.In) (o:Ord):GTries (t.did o).1 tries workers done:=by
 rcases did_shape t o with ⟨_,e,_⟩|⟨hc,i,hi,j',hd,h0,e,_⟩
 ·rw [e];exact h
 ·rw [e]
  have hne:∀ n,n<6→(0≤tries n∧tries n≤(expire (max t.now o.now) (t.jobs n)).tr)∧((expire (max t.now o.now) (t.jobs n)).st=2→(expire (max t.now o.now) (t.jobs n)).tr=tries n→(expire (max t.now o.now) (t.jobs n)).wk=workers n):=fun n hn=>by
   rw [expire_tr]
   refine ⟨h.tr n hn,fun hs ht=>?_⟩
   rw [expire_wk hs]
   rw [(expire_held hs).1] at hs
   exact h.wk n hn hs ht
  have hdd:∀ n,n<6→done n≠0→expire (max t.now o.now) (t.jobs n)=t.jobs n:=fun n hn hd=>expire_not (by have:=(h.d n hn).2.2 hd;omega)
  obtain ⟨⟨hi1,hi2⟩,hi3⟩:=hne i hi
  have hdi:done i=0:=by
   refine Classical.byContradiction fun hx=>?_
   have h3:=(h.d i hi).2.2 hx
   rw [hdd i hi hx] at hd
   cases hd with
   | take k s|add k _ s|renew k _ s|done k _ s|drop k _ s=>omega
  refine ⟨fun n hn=>?_,fun n hn=>?_,fun n hn=>?_⟩
  ·simp only [set_jobs,pass_jobs]
   split
   ·rename_i hni;subst hni
    cases hd with
    | take k s ha=>dsimp only;omega
    | add k hi' s ha=>
     have hz:=(expire_ok (max t.now o.now) (hk.ok.jobs n)).ab s
     rw [hz] at hi2
     exact ⟨hi1,hi2⟩
    | renew k hi' s hw ht ha=>exact ⟨hi1,hi2⟩
    | done k hi' s hw ht ha=>exact ⟨hi1,hi2⟩
    | drop k hi' s hw ht ha=>rw [expire_tr];exact ⟨hi1,hi2⟩
   ·exact (hne n hn).1
  ·simp only [set_jobs,pass_jobs]
   split
   ·rename_i hni;subst hni
    cases hd with
    | take k s ha=>dsimp only;intro _ h;omega
    | add k hi' s ha=>intro hs;simp at hs
    | renew k hi' s hw ht ha=>intro _ h;exact hi3 s h
    | done k hi' s hw ht ha=>intro hs;simp at hs
    | drop k hi' s hw ht ha=>intro hs;have:=(expire_held hs).2;dsimp only at this;omega
   ·exact (hne n hn).2
  ·refine ⟨(h.d n hn).1,(h.d n hn).2.1,fun hx=>?_⟩
   simp only [set_jobs,pass_jobs]
   split
   ·rename_i hni;subst hni;exact absurd hdi hx
   ·rw [hdd n hn hx];exact (h.d n hn).2.2 hx
theorem GTries.take {t:Tbl} {tries workers done:Nat→Int} (h:GTries t tries workers done) (hk:t.In) {o:Ord} (h2:o.kind=2) (h0:(t.did o).2.code=0) :
  ∃ i:Nat,i<6∧(t.did o).2.job=i∧tries i<(t.did o).2.tr∧0≤(t.did o).2.tr∧(t.did o).2.tr≤3∧done i=0∧GTries (t.did o).1 (upd tries i (t.did o).2.tr) (upd workers i o.wk) done:=by
 have hall:=h.any hk o
 rcases did_shape t o with ⟨e0,_⟩|⟨hc,i,hi,j',hd,_,e,_⟩
 ·exact absurd h0 e0
 ·rw [e] at hall ⊢
  have hdd:∀ n,n<6→done n≠0→expire (max t.now o.now) (t.jobs n)=t.jobs n:=fun n hn hd=>expire_not (by have:=(h.d n hn).2.2 hd;omega)
  have hdi:done i=0:=by
   refine Classical.byContradiction fun hx=>?_
   have h3:=(h.d i hi).2.2 hx
   rw [hdd i hi hx] at hd
   cases hd with
   | take k s|add k _ s|renew k _ s|done k _ s|drop k _ s=>omega
  cases hd with
  | take k s ha=>
   have hok:=expire_ok (max t.now o.now) (hk.ok.jobs i)
   have hwt:=hok.wt s
   have htr:=hok.tr
   rw [expire_tr] at hwt htr
   have h1:=h.tr i hi
   rw [ha]
   dsimp only
   rw [expire_tr] at hall ⊢
   refine ⟨i,hi,rfl,by omega,by omega,by omega,hdi,fun n hn=>?_,fun n hn=>?_,hall.d⟩
   ·have hx:=hall.tr n hn
    simp only [set_jobs,pass_jobs,upd] at hx ⊢
    by_cases hni:n=i
    ·subst hni;rw [if_pos rfl,if_pos rfl];dsimp only;omega
    ·rw [if_neg hni] at hx ⊢;rw [if_neg hni];exact hx
   ·have hx:=hall.wk n hn
    simp only [set_jobs,pass_jobs,upd] at hx ⊢
    by_cases hni:n=i
    ·subst hni;simp
    ·rw [if_neg hni] at hx ⊢;rw [if_neg hni,if_neg hni];exact hx
  | add k|renew k|done k|drop k=>omega
theorem GTries.done {t:Tbl} {tries workers done:Nat→Int} (h:GTries t tries workers done) (hk:t.In) {o:Ord} (h2:o.kind=4) (h0:(t.did o).2.code=0) :
  ∃ i:Nat,i<6∧o.job=i∧done i=0∧tries i≤o.tr∧(o.tr=tries i→o.wk=workers i)∧GTries (t.did o).1 tries workers (upd done i 1):=by
 have hall:=h.any hk o
 rcases did_shape t o with ⟨e0,_⟩|⟨hc,i,hi,j',hd,_,e,_⟩
 ·exact absurd h0 e0
 ·rw [e] at hall ⊢
  cases hd with
  | done k hi' s hw ht ha=>
   obtain ⟨ex,_⟩:=expire_held s
   rw [ex] at hw ht s
   have hd0:done i=0:=by
    refine Classical.byContradiction fun hx=>?_
    have:=(h.d i hi).2.2 hx
    omega
   have h1:=h.tr i hi
   refine ⟨i,hi,hi'.symm,hd0,by omega,fun hx=>by rw [←hw];exact h.wk i hi s (by omega),hall.tr,hall.wk,fun n hn=>?_⟩
   have hx:=hall.d n hn
   simp only [set_jobs,pass_jobs,upd] at hx ⊢
   by_cases hni:n=i
   ·subst hni;simp
   ·rw [if_neg hni] at hx ⊢;rw [if_neg hni];exact hx
  | take k|add k|renew k|drop k=>omega
theorem GTries.step {g:Gld} {l:List Rec} {x:Stp} {g':Gld} {a:Ans} {l':List Rec} {tries workers done:Nat→Int} (h:GTries (behind l) tries workers done) (s:Stepped g x l g' a l'):GTries (behind l') tries workers done:=by
 rcases s.grew with e|⟨n,_,_,_,_,_,_,e⟩
 ·rw [e];exact h
 ·rw [e,behind_snoc];exact h.any (behind_in l) _
end Go.Proofs.YtfihmpkkpgmdhaaGreatDoor
namespace Go.Proofs.YtfihmpkkpgmdhaaGreatDoor
def fOf (ns:List Nod):Nat→Option Nod:=fun i=>ns[i]?
theorem fOf_set (ns:List Nod) {i:Nat} (hi:i<ns.length) (n:Nod):putN (fOf ns) i n=fOf (ns.set i n):=by
 funext k
 unfold putN fOf
 rw [List.getElem?_set]
 by_cases h:k=i
 ·subst h;simp [hi]
 ·rw [if_neg h,if_neg (fun e=>h e.symm)]
structure Crw where
 d:Dsk
 ns:List Nod
def Crw.Good (c:Crw):Prop:=(∃ l,Fam c.d (fOf c.ns) l)∧c.ns.length≤8
theorem Crw.Good.node {c:Crw} (h:c.Good) {i:Nat} {n:Nod} (hi:c.ns[i]? = some n):1≤n.ep∧n.ep≤c.d.ep∧n.t.Ok:=by
 obtain ⟨l,h⟩:=h.1
 have:=h.sv i n hi
 exact ⟨this.1.1,this.1.2,this.2.1.ok⟩
theorem Crw.Good.order {c:Crw} (h:c.Good) {i:Nat} {n:Nod} (hi:c.ns[i]? = some n) (o:Ord):(⟨(n.order c.d o 9).1,c.ns.set i (n.order c.d o 9).2.1⟩:Crw).Good:=by
 obtain ⟨⟨l,h⟩,h8⟩:=h
 have hl:=(List.getElem?_eq_some_iff.1 hi).1
 refine ⟨?_,by simpa using h8⟩
 dsimp only
 rw [←fOf_set _ hl]
 obtain ⟨_,_,hc⟩:=h.order hi o
 rcases hc with ⟨_,hd,_,_,hf,_⟩|⟨_,_,_,_,_,hf⟩
 ·rw [hd];exact ⟨_,hf⟩
 ·exact ⟨_,hf⟩
theorem Crw.Good.tear {c:Crw} (h:c.Good) {i:Nat} {n:Nod} (hi:c.ns[i]? = some n) (o:Ord) (kp:Int):(⟨(n.tear c.d o (keepN kp)).1,c.ns.set i (n.tear c.d o (keepN kp)).2.1⟩:Crw).Good:=by
 obtain ⟨⟨l,h⟩,h8⟩:=h
 have hl:=(List.getElem?_eq_some_iff.1 hi).1
 refine ⟨?_,by simpa using h8⟩
 dsimp only
 rw [←fOf_set _ hl]
 obtain ⟨_,_,hc⟩:=h.tear hi o (keepN_le kp)
 rcases hc with ⟨_,hd,hf,_⟩|⟨_,_,_,_,_,_,hf⟩
 ·rw [hd];exact ⟨_,hf⟩
 ·rcases hf with ⟨_,hf⟩|⟨_,hf⟩
  ·exact ⟨_,hf⟩
  ·exact ⟨_,hf⟩
theorem Crw.Good.stop {c:Crw} (h:c.Good) {i:Nat} {n:Nod} (hi:c.ns[i]? = some n):(⟨c.d,c.ns.set i ⟨n.t,n.ep,true⟩⟩:Crw).Good:=by
 obtain ⟨⟨l,h⟩,h8⟩:=h
 have hl:=(List.getElem?_eq_some_iff.1 hi).1
 refine ⟨?_,by simpa using h8⟩
 dsimp only
 rw [←fOf_set _ hl]
 exact ⟨_,h.stop hi⟩
end Go.Proofs.YtfihmpkkpgmdhaaGreatDoor
namespace Go.Proofs.YtfihmpkkpgmdhaaGreatDoor
def lastOf (l:List Rec) (i:Nat):Int:=max 1 (lastE 0 (l.take i))
end Go.Proofs.YtfihmpkkpgmdhaaGreatDoor
end
namespace Go.Proofs.YtfihmpkkpgmdhaaGreatDoor
open Go.RowKit
open Go.Lib renaming hid → zH
open Go.Value renaming int → zI
open Go.IntKind renaming i64 → zi
theorem in_any (n a b:Int) (w:World) :
  Calls Tryz.prog 75 #[zI zi n,zI zi a,zI zi b] w fun e w'=>e=.returned (.bool (inB n a b))∧w=w':=by
 by_cases h:a≤n
 ·go_enter Tryz.func75,Tryz.ntmps75
  go_wp2
  go_ret
  exact ⟨by simp [inB];omega,rfl⟩
 ·go_enter Tryz.func75,Tryz.ntmps75
  go_wp2
  go_ret
  exact ⟨by simp [inB];omega,rfl⟩
theorem own_any (b:Nat) (t:Tbl) (w:World) (h:TableAt w b t) :
  Calls Tryz.prog 135 #[.pointer (some ⟨b,0,none⟩)] w fun e w'=>∃ b',e=.returned (.pointer (some ⟨b',0,none⟩))∧w.heap.size≤b'∧Below w.heap.size w w'∧TableAt w' b' t:=by
 have hr:=zH h;clear h
 go_enter Tryz.func135,Tryz.ntmps135
 go_wp2_with (first|(refine wpList_load_whole rfl 146 _ rfl b rfl (tcells t) hr.out Tryz.underlying146 rfl (by kernel_rfl) ?_)|(refine wpList_store_whole rfl 146 _ _ rfl w.heap.size (tcells t) rfl rfl (BlockAt.new w 146 (tcells Tbl.zero)) (by simp [tcells_len]) (by kernel_rfl) (tcells_ones t) ?_;intro w' h1 h2 h3))
 go_ret
 exact ⟨_,rfl,Nat.le_refl _,((Below.refl _ _).alloc (Nat.le_refl _) _).grown h2 (by simp) (by rintro k ⟨⟩;exact Nat.le_refl _),h1⟩
theorem new_any (w:World) :
  Calls Tryz.prog 77 #[] w fun e w'=>∃ b,e=.returned (.pointer (some ⟨b,0,none⟩))∧w.heap.size≤b∧Below w.heap.size w w'∧TableAt w' b Tbl.zero:=by
 go_enter Tryz.func77,Tryz.ntmps77
 go_wp2
 go_ret
 exact ⟨_,rfl,Nat.le_refl _,(Below.refl _ _).alloc (Nat.le_refl _) _,BlockAt.new w _ _⟩
theorem job_any (b:Nat) (t:Tbl) (n:Int) (w:World) (h:TableAt w b t) :
  Calls Tryz.prog 49 #[.pointer (some ⟨b,0,none⟩),zI zi n] w fun e w'=>e=.returned (t.job n).val∧Below w.heap.size w w':=by
 by_cases hn:0≤n∧n≤5
 ·obtain ⟨k,rfl⟩:=Int.eq_ofNat_of_zero_le hn.1
  obtain ⟨c0,c1,c2,c3⟩:=h.job (show k<6 by omega)
  have hlt:=h.lt
  have hb:inB k 0 5=true:=by simp [inB];omega
  have HB:=zH hb;clear hb
  have hn2:(k:Int)≤5:=hn.2
  have HJ:Hid (t.job k=t.jobs k):=by simp [Hid,Tbl.job,hn2]
  clear hn
  have H:=zH h;clear h
  go_enter Tryz.func49,Tryz.ntmps49
  go_wp2_with (go_at_call 75;refine (in_any _ _ _ _).mono ?_;rw [HB.out];rintro e w' ⟨rfl,rfl⟩)
  rw [HJ.out]
  refine bodyPost_ret (v:=(t.jobs k).val) (by simp [results,Tryz.results49,go_sem,Job.val,jcells]) rfl ⟨rfl,?_⟩
  repeat refine Below.setCell ?_ (Nat.le_refl _) _
  exact (Below.refl _ _).alloc (Nat.le_refl _) _
 ·have hb:inB n 0 5=false:=by simp [inB];omega
  have HB:=zH hb;clear hb
  have HJ:Hid (t.job n=Job.zero):=by simp only [Hid,Tbl.job,if_neg hn]
  clear hn h
  go_enter Tryz.func49,Tryz.ntmps49
  go_wp2_with (go_at_call 75;refine (in_any _ _ _ _).mono ?_;rw [HB.out];rintro e w' ⟨rfl,rfl⟩)
  rw [HJ.out]
  refine bodyPost_ret (v:=Job.zero.val) (by simp [results,Tryz.results49,go_sem,Job.val,jcells,Job.zero]) rfl ⟨rfl,?_⟩
  repeat refine Below.setCell ?_ (Nat.le_refl _) _
  exact (Below.refl _ _).alloc (Nat.le_refl _) _
theorem check_any (c n j t k m:Int) (w:World) :
  Calls Tryz.prog 107 #[.agg #[zI zi c,zI zi n,zI zi j,zI zi t,zI zi k,zI zi m]] w fun e w'=>
   e=.returned (zI zi (chk ⟨c,n,j,t,k,m⟩))∧Below w.heap.size w w':=by
 by_cases hc:1≤c∧c≤5
 ·obtain rfl|rfl|rfl|rfl|rfl:c=1∨c=2∨c=3∨c=4∨c=5:=by omega
  all_goals
   clear hc
   have g0:inB 1 1 5=true:=rfl
   have g1:inB 2 1 5=true:=rfl
   have g2:inB 3 1 5=true:=rfl
   have g3:inB 4 1 5=true:=rfl
   have g4:inB 5 1 5=true:=rfl
   go_enter Tryz.func107,Tryz.ntmps107
   go_wp2_with (go_at_call 75;refine (in_any _ _ _ _).mono ?_;rintro e w' ⟨rfl,rfl⟩)
   go_quiet (fail)
   go_wp2_with (go_at_call 75;refine (in_any _ _ _ _).mono ?_;rintro e w' ⟨rfl,rfl⟩)
   all_goals clear g0 g1 g2 g3 g4
  all_goals
   go_ret
   refine ⟨ret_i64 ?_,below_drewN ((Below.refl _ _).alloc (Nat.le_refl _) _) _⟩
   try simp only [Bool.not_eq_eq_eq_not,Bool.not_true,Bool.not_false,inB_true,inB_false,bne_iff_ne,ne_eq,bne_eq_false_iff_eq] at *
   unfold chk
   dsimp only
   repeat' split
   all_goals omega
 ·have hb:inB c 1 5=false:=inB_false.2 hc
  have HC:=zH hc;clear hc
  go_enter Tryz.func107,Tryz.ntmps107
  go_wp2_with (go_at_call 75;refine (in_any _ _ _ _).mono ?_;rintro e w' ⟨rfl,rfl⟩)
  go_ret
  exact ⟨ret_i64 (by rw [chk,if_pos HC.out]),(Below.refl _ _).alloc (Nat.le_refl _) _⟩
theorem pass_any (b:Nat) (t:Tbl) (n:Int) (w:World) (h:TableAt w b t) :
  Calls Tryz.prog 108 #[.pointer (some ⟨b,0,none⟩),zI zi n] w fun e w'=>e=.returned (.tuple #[])∧w.grownBy w' (some b)∧TableAt w' b (t.pass n):=by
 have hnow:=h.cell 24 _ rfl
 have hf:=h.free 24
 have H:=zH h;clear h
 obtain ⟨m,hm,hcase⟩:∃ m,Hid (m=max t.now n)∧(t.now<n∧n=m∨n≤t.now∧t.now=m):=⟨_,rfl,by omega⟩
 rcases hcase with ⟨hlt0,rfl⟩|⟨hlt0,rfl⟩
 all_goals
  go_enter Tryz.func108,Tryz.ntmps108
  go_wp2
  go_loopw [15,4,5] (fun i _ _ wr=>∃ (k:Nat) (m:Int),k≤6∧i=zI zi k∧w.grownBy wr (some b)∧Hid (m=max t.now n)∧TableAt wr b (passTo t m k)) (fun i _ _ _=>6-(intOf i).toNat)
  case atStart=>exact ⟨0,_,by omega,rfl,grown_setCell (grown_refl w _) _ _,hm,passTo_start t _ H.out⟩
  case round=>
   obtain ⟨k,m,hk,rfl,hg,hm',ht⟩:=hrel
   by_cases hlt:k<6
   ·obtain ⟨c0,c1,c2,c3⟩:=ht.job hlt
    have c24:=ht.cell 24 _ rfl
    simp only [passTo] at c0 c1 c2 c3 c24
    have f0:=ht.free (k*4)
    have f1:=ht.free (k*4+1)
    have f2:=ht.free (k*4+2)
    have f3:=ht.free (k*4+3)
    have HT:=zH ht;clear ht
    by_cases hs:(t.jobs k).st=2
    ·have hs1:((t.jobs k).st != 2)=false:=by simpa using hs
     have HS:=zH hs;clear hs
     by_cases hu:(t.jobs k).un≤m
     ·by_cases h3:3≤(t.jobs k).tr
      ·go_wp2
       go_quiet (fail)
       go_wp2
       go_roundw
       case rel=>exact ⟨k+1,m,by omega,by go_num,grown_setCell (grown_setCell (grown_setCell (grown_setCell (grown_drewN hg _) _ _) _ _) _ _) _ _,hm',passTo_set _ _ _ (by rw [expire,if_pos ⟨HS.out,hu⟩,if_pos h3];exact TableAt.setJob HT.out hlt ⟨4,0,(t.jobs k).tr,0⟩)⟩
       case measure=>simp [intOf];omega
      ·go_wp2
       go_quiet (fail)
       go_wp2
       go_roundw
       case rel=>exact ⟨k+1,m,by omega,by go_num,grown_setCell (grown_setCell (grown_setCell (grown_setCell (grown_drewN hg _) _ _) _ _) _ _) _ _,hm',passTo_set _ _ _ (by rw [expire,if_pos ⟨HS.out,hu⟩,if_neg (by omega)];exact TableAt.setJob HT.out hlt ⟨1,0,(t.jobs k).tr,0⟩)⟩
       case measure=>simp [intOf];omega
     ·go_wp2
      go_quiet (fail)
      go_wp2
      go_roundw
      case rel=>exact ⟨k+1,m,by omega,by go_num,grown_drewN hg _,hm',passTo_keep _ _ _ HT.out (by rw [expire,if_neg (fun h=>absurd h.2 (by omega))])⟩
      case measure=>simp [intOf];omega
    ·have hs1:((t.jobs k).st != 2)=true:=by simpa using hs
     have HS:=zH hs;clear hs
     go_wp2
     go_quiet (fail)
     go_wp2
     go_roundw
     case rel=>exact ⟨k+1,m,by omega,by go_num,grown_drewN hg _,hm',passTo_keep _ _ _ HT.out (by rw [expire,if_neg (fun h=>HS.out h.1)])⟩
     case measure=>simp [intOf];omega
   ·obtain rfl:k=6:=by omega
    go_wp2
    go_end0
    exact ⟨rfl,hg,passTo_end _ _ (by rw [←hm'.out];exact ht)⟩
end Go.Proofs.YtfihmpkkpgmdhaaGreatDoor
