/-
  What the proof of DeskDoes leans on: definitions, laws, contracts of functions. No condition besides those that each theorem names.
-/
import Derived.Test.YtfihmpkkpgmdhaaGreatDoorZD03
import Derived.Test.YtfihmpkkpgmdhaaGreatDoorZD01
import Derived.Test.YtfihmpkkpgmdhaaGreatDoorZD04
import Derived.Test.YtfihmpkkpgmdhaaGreatDoorZD05
set_option maxRecDepth 100000
set_option maxHeartbeats 16000000
set_option linter.unusedVariables false
set_option linter.unusedSimpArgs false
set_option linter.unnecessarySimpa false
namespace Go.Proofs.YtfihmpkkpgmdhaaGreatDoor
open Go.RowKit
open List renaming setIfInBounds_toArray → zA, set_cons_zero → zB, set_cons_succ → zC
open Go.Act renaming put → zP
open Go.Lib renaming hid → zH
open Go.Value renaming int → zI
open Go.IntKind renaming i64 → zi
theorem BytesAt.get {w:World} {v:Value} {l:List UInt8} (h:BytesAt w v l):∃ a c,v=.slice a l.length c∧l.length≤c∧c≤9223372036854775807 ∧
  (l≠[]→∃ g off,a=some ⟨g,off,none⟩∧∀ i,i<l.length→w.cell? ⟨g,off+i,none⟩=some (.int .u8 ((l.getD i 0).toNat:Int))):=by
 obtain ⟨a,c,rfl,h1,h2,h3,h4⟩:=h
 refine ⟨a,c,rfl,h1,by unfold maxLen at h2;omega,fun hl=>?_⟩
 obtain ⟨g,off,rfl,h5⟩:=h4 hl
 refine ⟨g,off,rfl,fun i hi=>h5 i _ ?_⟩
 simp [bvs,bv,hi]
theorem csum_any (v:Value) (l:List UInt8) (w:World) (h:BytesAt w v l) (hl:l.length≤1000) :
  Calls Tryz.prog 124 #[v] w fun e w'=>e=.returned (.int .u8 ((csum l).toNat:Int))∧w=w':=by
 obtain ⟨a,c,rfl,h1,h2,h3⟩:=h.get
 have H3:=zH h3;clear h3 h
 go_enter Tryz.func124,Tryz.ntmps124
 go_wp2
 go_loop [8,3,4,5] (fun i n _ _=>∃ k:Nat,k≤l.length∧i=zI zi k∧n=zI zi (sumB (l.take k):Int)) (fun i _ _ _=>l.length-(intOf i).toNat)
 case atStart=>exact ⟨0,by omega,rfl,rfl⟩
 case round=>
  obtain ⟨k,hk,rfl,rfl⟩:=hrel
  have hb:=sumB_le (l.take k) (by simp;omega)
  by_cases hlt:k<l.length
  ·obtain ⟨g,off,rfl,hc⟩:=H3.out (by intro e;rw [e] at hlt;simp at hlt)
   have hck:=hc k hlt
   have hs:=sumB_take l k hlt
   have hx:(l.getD k 0).toNat≤255:=by have:=(l.getD k 0).toNat_lt;omega
   have hm:(k+1)*(l.getD k 0).toNat≤1001*255:=Nat.mul_le_mul (by omega) hx
   have HS:=zH hs
   clear hs hc
   generalize (l.getD k 0).toNat=y at *
   obtain ⟨p,hp⟩:∃ p:Nat,(k+1)*y=p:=⟨_,rfl⟩
   have hp2:((k:Int)+1)*(y:Int)=(p:Int):=by rw [←hp];simp
   have hp3:p≤255255:=by omega
   have HP:=zH hp
   clear hp hm
   go_wp2
   go_round
   case rel=>exact ⟨k+1,by omega,by go_num,by rw [HS.out,HP.out];go_num⟩
   case measure=>simp [intOf];omega
  ·obtain rfl:k=l.length:=by omega
   go_wp2
   go_ret
   refine ⟨?_,rfl⟩
   simp [bv,csum_toNat]
theorem rsum_any (v:Value) (l:List UInt8) (w:World) (h:BytesAt w v l) (hl:l.length≤1000) :
  Calls Tryz.prog 118 #[v] w fun e w'=>e=.returned (.int .u8 ((csum l).toNat:Int))∧w=w':=by
 obtain ⟨a,c,rfl,h1,h2,h3⟩:=h.get
 have H3:=zH h3;clear h3 h
 go_enter Tryz.func118,Tryz.ntmps118
 go_wp2
 go_loop [4,3] (fun i n=>∃ k:Nat,k≤l.length∧i=zI zi k∧n=zI zi (sumB (l.take k):Int)) (fun i _=>l.length-(intOf i).toNat)
 case atStart=>exact ⟨0,by omega,rfl,rfl⟩
 case round=>
  obtain ⟨k,hk,rfl,rfl⟩:=hrel
  have hb:=sumB_le (l.take k) (by simp;omega)
  by_cases hlt:k<l.length
  ·obtain ⟨g,off,rfl,hc⟩:=H3.out (by intro e;rw [e] at hlt;simp at hlt)
   have hck:=hc k hlt
   have hs:=sumB_take l k hlt
   have hx:(l.getD k 0).toNat≤255:=by have:=(l.getD k 0).toNat_lt;omega
   have hm:(k+1)*(l.getD k 0).toNat≤1001*255:=Nat.mul_le_mul (by omega) hx
   have HS:=zH hs
   clear hs hc
   generalize (l.getD k 0).toNat=y at *
   obtain ⟨p,hp⟩:∃ p:Nat,(k+1)*y=p:=⟨_,rfl⟩
   have hp2:((k:Int)+1)*(y:Int)=(p:Int):=by rw [←hp];simp
   have hp3:p≤255255:=by omega
   have HP:=zH hp
   clear hp hm
   go_wp2
   go_round
   case rel=>exact ⟨k+1,by omega,by go_num,by rw [HS.out,HP.out];go_num⟩
   case measure=>simp [intOf];omega
  ·obtain rfl:k=l.length:=by omega
   go_wp2
   go_ret
   refine ⟨?_,rfl⟩
   simp [bv,csum_toNat]
theorem ccheck_any (p c n j t k m:Int) (w:World) :
  Calls Tryz.prog 125 #[.agg #[zI zi p,zI zi c,zI zi n,zI zi j,zI zi t,zI zi k,zI zi m]] w fun e w'=>e=.returned (zI zi (chkR ⟨p,⟨c,n,j,t,k,m⟩⟩))∧Below w.heap.size w w':=by
 by_cases h1:p<1
 ·rw [show chkR ⟨p,⟨c,n,j,t,k,m⟩⟩=3 by simp [chkR,h1]]
  go_enter Tryz.func125,Tryz.ntmps125
  go_wp2_with fail
  go_ret
  exact ⟨rfl,(Below.refl _ _).alloc (Nat.le_refl _) _⟩
 ·by_cases h2:100<p
  ·rw [show chkR ⟨p,⟨c,n,j,t,k,m⟩⟩=3 by simp [chkR,h2]]
   go_enter Tryz.func125,Tryz.ntmps125
   go_wp2_with fail
   go_ret
   exact ⟨rfl,(Below.refl _ _).alloc (Nat.le_refl _) _⟩
  ·rw [show chkR ⟨p,⟨c,n,j,t,k,m⟩⟩=chk ⟨c,n,j,t,k,m⟩ by simp [chkR];omega]
   go_enter Tryz.func125,Tryz.ntmps125
   go_wp2_with fail
   refine (check_any c n j t k m _).mono ?_
   rintro e w1 ⟨rfl,hb⟩
   go_wp2
   go_ret
   exact ⟨rfl,((Below.refl w.heap.size w).alloc (Nat.le_refl _) _).trans (hb.mono (by simp))⟩
theorem chkR_zero {r:Rec} (h:chkR r=0):1≤r.ep∧r.ep≤100∧chk r.o=0:=by
 unfold chkR at h
 split at h
 ·simp at h
 ·exact ⟨by omega,by omega,h⟩
theorem chk_bounds {o:Ord} (h:chk o=0):1≤o.kind∧o.kind≤5∧0≤o.now∧o.now≤60000∧0≤o.job∧o.job≤5∧0≤o.tr∧o.tr≤3∧0≤o.wk∧o.wk≤3∧0≤o.tm∧o.tm≤20:=by
 unfold chk at h
 split at h<;>omega
theorem bv_u8 {n:Int} (h0:0≤n) (h1:n≤255):bv (u8 n)=.int .u8 n:=by
 unfold bv u8
 rw [UInt8.toNat_ofNat']
 congr 1
 omega
theorem own_new (w:World) (cs:List Value) (l:List UInt8) (h:cs=bvs l) (hl:l.length≤100000):OwnB (w.alloc (.cells cs.toArray 5)) (.slice (some ⟨w.heap.size,0,none⟩) l.length l.length) l:=by
 subst h
 exact .inr ⟨_,l.length,bvs l,rfl,BlockAt.new w 5 _,Nat.le_refl _,by simp,by unfold maxLen;omega,List.take_of_length_le (by simp)⟩
theorem encH_cells {r:Rec} (h:chkR r=0):bvs (encH r)=[.int .u8 r.ep,.int .u8 r.o.kind,.int .u8 (r.o.now / 256),.int .u8 (r.o.now % 256),.int .u8 r.o.job,.int .u8 r.o.tr,.int .u8 r.o.wk,.int .u8 r.o.tm]:=by
 obtain ⟨p0,p1,hc⟩:=chkR_zero h
 obtain ⟨b0,b1,b2,b3,b4,b5,b6,b7,b8,b9,b10,b11⟩:=chk_bounds hc
 simp only [bvs,encH,List.map_cons,List.map_nil]
 rw [bv_u8 (by omega) (by omega),bv_u8 (by omega) (by omega),bv_u8 (by omega) (by omega),bv_u8 (by omega) (by omega),bv_u8 (by omega) (by omega),bv_u8 (by omega) (by omega),bv_u8 (by omega) (by omega),bv_u8 (by omega) (by omega)]
def EncPost (w:World) (r:Rec) (e:Ending) (w':World):Prop:=
 ∃ v,e=.returned (.tuple #[v,zI zi (chkR r)])∧OwnB w' v (if chkR r=0 then encB r else [])∧Below w.heap.size w w'∧∀ k,v.ownBlock=some k→w.heap.size≤k
theorem encode_any (p c n j t k m:Int) (w:World) :
  Calls Tryz.prog 136 #[.agg #[zI zi p,zI zi c,zI zi n,zI zi j,zI zi t,zI zi k,zI zi m]] w (EncPost w ⟨p,⟨c,n,j,t,k,m⟩⟩):=by
 by_cases h0:chkR ⟨p,⟨c,n,j,t,k,m⟩⟩=0
 ·obtain ⟨p0,p1,hc⟩:=chkR_zero h0
  obtain ⟨b0,b1,b2,b3,b4,b5,b6,b7,b8,b9,b10,b11⟩:=chk_bounds hc
  dsimp only at *
  have H0:=zH h0
  clear h0 hc
  obtain ⟨i0,hi,hz0,hz1,hz2⟩:=info_parts Tryz.infoU8
  go_enter Tryz.func136,Tryz.ntmps136
  go_wp2_with fail
  refine (ccheck_any _ _ _ _ _ _ _ _).mono ?_
  rw [H0.out]
  rintro e w1 ⟨rfl,hb1⟩
  have hx:=(BlockAt.new w 103 [zI zi p,zI zi c,zI zi n,zI zi j,zI zi t,zI zi k,zI zi m]).below hb1 (by simp)
  have k1:=hx.cells
  have l1:=hx.lt
  have HX:=zH hx
  have HB1:=zH hb1
  clear hx hb1
  go_wp2_with fail
  have ho:=own_new (w1.alloc (.cells #[zI zi c,zI zi n,zI zi j,zI zi t,zI zi k,zI zi m] 84)) _ (encH ⟨p,⟨c,n,j,t,k,m⟩⟩) (encH_cells H0.out).symm (by simp [encH])
  simp only [World.size_alloc] at ho
  have HO:=zH ho;clear ho
  refine (csum_any _ _ _ HO.out.bytes (by simp [encH])).mono ?_
  rintro e w2 ⟨rfl,rfl⟩
  generalize hs:csum (encH ⟨p,⟨c,n,j,t,k,m⟩⟩)=s
  have HS:=zH hs;clear hs
  have ho2:=HO.out.upd (Upd.alloc (F:=fun _=>False) (Upd.refl _ _) (.cells #[.int .u8 (s.toNat:Int)] 5)) (fun _ _ h=>h)
  have hn2:=(own_new ((w1.alloc (.cells #[zI zi c,zI zi n,zI zi j,zI zi t,zI zi k,zI zi m] 84)).alloc (.cells #[.int .u8 p,.int .u8 c,.int .u8 (n / 256),.int .u8 (n % 256),.int .u8 j,.int .u8 t,.int .u8 k,.int .u8 m] 5)) [.int .u8 (s.toNat:Int)] [s] rfl (by simp)).bytes
  simp only [World.size_alloc] at hn2
  have HO2:=zH ho2;have HN2:=zH hn2;clear ho2 hn2
  go_wp2_with (at_builtin;refine wpList_append_bytes (v:=.slice (some ⟨w1.heap.size+1,0,none⟩) 8 8) (l:=encH ⟨p,⟨c,n,j,t,k,m⟩⟩) (m:=[s]) rfl _ _ 42 rfl 5 i0 Tryz.underlying42 hi hz0 hz1 hz2 rfl rfl rfl HO2.out HN2.out (by simp [encH]) ?_;intro v' w' hv' hu hfr)
  go_ret2
  have hu2:Upd (fun k=>(Value.slice (some ⟨w1.heap.size+1,0,none⟩) 8 8).ownBlock=some k) w1 w':=by
   refine Upd.trans (F:=fun k=>(Value.slice (some ⟨w1.heap.size+1,0,none⟩) 8 8).ownBlock=some k) ?_ hu (fun k hk=>.inl hk)
   exact ((Upd.alloc (Upd.refl _ _) _).alloc _).alloc _
  have hu3:=((Below.refl w.heap.size w).alloc (Nat.le_refl _) _).trans (HB1.out.mono (by simp))
  have hs3:=hu3.size
  refine ⟨v',by rw [H0.out];rfl,?_,hu3.trans (hu2.below hs3 fun k hk=>by simp [Value.ownBlock] at hk;omega),fun k hk=>?_⟩
  ·rw [if_pos H0.out,encB,HS.out]
   exact hv'
  ·rcases hfr k hk with h|h
   ·simp [Value.ownBlock] at h;omega
   ·simp at h;omega
 ·obtain ⟨C,hC⟩:∃ C,chkR ⟨p,⟨c,n,j,t,k,m⟩⟩=C:=⟨_,rfl⟩
  have hc1:(C != 0)=true:=by rw [hC] at h0;simpa using h0
  have HC:=zH hC
  have H0:=zH h0
  clear hC h0
  go_enter Tryz.func136,Tryz.ntmps136
  go_wp2_with fail
  refine (ccheck_any _ _ _ _ _ _ _ _).mono ?_
  rw [HC.out]
  rintro e w1 ⟨rfl,hb1⟩
  have HB1:=zH hb1;clear hb1
  go_wp2
  go_ret2
  exact ⟨_,by rw [HC.out];rfl,by rw [if_neg H0.out];exact OwnB.nil _,((Below.refl w.heap.size w).alloc (Nat.le_refl _) _).trans (HB1.out.mono (by simp)),by simp [Value.ownBlock]⟩
theorem BytesAt.take {w:World} {a:Option Addr} {n c:Nat} {l:List UInt8} (h:BytesAt w (.slice a n c) l) {q:Nat} (hq:q≤l.length):BytesAt w (.slice a q c) (l.take q):=by
 obtain ⟨a',c',e,h1,h2,h3,h4⟩:=h
 simp only [Value.slice.injEq] at e
 obtain ⟨rfl,_,rfl⟩:=e
 have hl:(l.take q).length=q:=by simp;omega
 refine ⟨a,c,by rw [hl],by omega,h2,h3,fun hne=>?_⟩
 obtain ⟨g,off,rfl,h5⟩:=h4 (by intro e;subst e;simp at hne)
 refine ⟨g,off,rfl,fun j u hu=>h5 j u ?_⟩
 simp only [bvs,List.map_take,List.getElem?_take] at hu
 split at hu
 ·exact hu
 ·cases hu
def rcells (r:Rec):List Value:=[zI zi r.ep,zI zi r.o.kind,zI zi r.o.now,zI zi r.o.job,zI zi r.o.tr,zI zi r.o.wk,zI zi r.o.tm]
def DecPost (w:World) (x:Rec×Int) (e:Ending) (w':World):Prop:=
 e=.returned (.tuple #[.agg #[zI zi x.1.ep,zI zi x.1.o.kind,zI zi x.1.o.now,zI zi x.1.o.job,zI zi x.1.o.tr,zI zi x.1.o.wk,zI zi x.1.o.tm],zI zi x.2])∧Below w.heap.size w w'
theorem w8 (y:Nat) (h:y<256):IntKind.i64.wrap (y:Int)=y:=by
 rw [IntKind.wrap_i64];omega
theorem w16 (y:Nat) (h:y<256):IntKind.i64.wrap (IntKind.i64.wrap (y:Int)*256)=((256*y:Nat):Int):=by
 rw [w8 y h,IntKind.wrap_i64];omega
theorem ofInt_i64 (a:Nat) (ha:a<9223372036854775808):(BitVec.ofInt 64 (a:Int)).toNat=a:=by
 rw [BitVec.toNat_ofInt];omega
theorem i64_or_nat (a b:Nat) (ha:a<9223372036854775808) (hb:b<9223372036854775808):bits .or .i64 (a:Int) (b:Int)=((a ||| b:Nat):Int):=by
 have hx:a ||| b<2 ^ 63:=Nat.or_lt_two_pow (by omega) (by omega)
 show IntKind.i64.wrap ((BitVec.ofInt 64 (a:Int) ||| BitVec.ofInt 64 (b:Int)).toNat:Int)=_
 rw [BitVec.toNat_or,ofInt_i64 a ha,ofInt_i64 b hb,IntKind.wrap_i64]
 omega
theorem or8 (y z:Nat) (h:y<256) (hz:z<256):bits .or .i64 (IntKind.i64.wrap (IntKind.i64.wrap (y:Int)*256)) (IntKind.i64.wrap (z:Int))=256*(y:Int)+(z:Int):=by
 rw [w16 y h,w8 z hz,i64_or_nat _ _ (by omega) (by omega)]
 have:=Nat.two_pow_add_eq_or_of_lt (i:=8) (b:=z) (by omega) y
 simp only [show (2:Nat) ^ 8=256 from rfl] at this
 omega
theorem u8_ne (a b:UInt8) (h:a≠b):(((a.toNat:Int)) != (b.toNat:Int))=true:=by
 simp only [bne_iff_ne,ne_eq]
 intro e
 exact h (UInt8.toNat_inj.1 (by omega))
theorem decode_any (v:Value) (l:List UInt8) (w:World) (h:BytesAt w v l):Calls Tryz.prog 106 #[v] w (DecPost w (decB l)):=by
 have HB:=zH h
 obtain ⟨a,c,rfl,h1,h2,h3⟩:=h.get
 have H3:=zH h3;clear h3 h
 by_cases h9:l.length<9
 ·rw [show decB l=(Rec.zero,7) by simp [decB,h9]]
  go_enter Tryz.func106,Tryz.ntmps106
  go_wp2
  refine bodyPost_ret (v:=.tuple #[.agg #[zI zi 0,zI zi 0,zI zi 0,zI zi 0,zI zi 0,zI zi 0,zI zi 0],zI zi 7]) (by simp [results,Tryz.results106,go_sem]) rfl ⟨rfl,?_⟩
  repeat refine Below.setCell ?_ (Nat.le_refl _) _
  exact (Below.refl _ _).alloc (Nat.le_refl _) _
 ·obtain ⟨g,off,rfl,hc⟩:=H3.out (by intro e;subst e;simp at h9)
  have c8:=hc 8 (by omega)
  have h10:9≤l.length:=by omega
  have h11:8≤c:=by omega
  have h12:(8:Int)≤(c:Int):=by omega
  have h20:0<l.length:=by omega
  have h21:(1:Int)<(l.length:Int):=by omega
  have h22:(2:Int)<(l.length:Int):=by omega
  have h23:(3:Int)<(l.length:Int):=by omega
  have h24:(4:Int)<(l.length:Int):=by omega
  have h25:(5:Int)<(l.length:Int):=by omega
  have h26:(6:Int)<(l.length:Int):=by omega
  have h27:(7:Int)<(l.length:Int):=by omega
  have h28:(8:Int)<(l.length:Int):=by omega
  have HT:=zH (HB.out.take (q:=8) (by omega))
  have hg:=block_lt_of_cell c8
  by_cases hs:csum (l.take 8)=l.getD 8 0
  ·have hs1:(((csum (l.take 8)).toNat:Int) != ((l.getD 8 0).toNat:Int))=false:=by rw [hs];simp
   have d0:=hc 0 (by omega)
   have d1:=hc 1 (by omega)
   have d2:=hc 2 (by omega)
   have d3:=hc 3 (by omega)
   have d4:=hc 4 (by omega)
   have d5:=hc 5 (by omega)
   have d6:=hc 6 (by omega)
   have d7:=hc 7 (by omega)
   rw [Nat.add_zero] at d0
   clear hc
   have dx:decB l=(if chkR ⟨((l.getD 0 0).toNat:Int),⟨((l.getD 1 0).toNat:Int),256*((l.getD 2 0).toNat:Int)+((l.getD 3 0).toNat:Int),((l.getD 4 0).toNat:Int),((l.getD 5 0).toNat:Int),((l.getD 6 0).toNat:Int),((l.getD 7 0).toNat:Int)⟩⟩≠0 then (Rec.zero,chkR ⟨((l.getD 0 0).toNat:Int),⟨((l.getD 1 0).toNat:Int),256*((l.getD 2 0).toNat:Int)+((l.getD 3 0).toNat:Int),((l.getD 4 0).toNat:Int),((l.getD 5 0).toNat:Int),((l.getD 6 0).toNat:Int),((l.getD 7 0).toNat:Int)⟩⟩) else (⟨((l.getD 0 0).toNat:Int),⟨((l.getD 1 0).toNat:Int),256*((l.getD 2 0).toNat:Int)+((l.getD 3 0).toNat:Int),((l.getD 4 0).toNat:Int),((l.getD 5 0).toNat:Int),((l.getD 6 0).toNat:Int),((l.getD 7 0).toNat:Int)⟩⟩,0)):=by
    rw [decB,if_neg h9,if_neg (by rw [hs];simp)]
    rfl
   rw [dx];clear dx hs
   have e0:=w8 _ (l.getD 0 0).toNat_lt
   have e1:=w8 _ (l.getD 1 0).toNat_lt
   have e23:=or8 _ _ (l.getD 2 0).toNat_lt (l.getD 3 0).toNat_lt
   have e4:=w8 _ (l.getD 4 0).toNat_lt
   have e5:=w8 _ (l.getD 5 0).toNat_lt
   have e6:=w8 _ (l.getD 6 0).toNat_lt
   have e7:=w8 _ (l.getD 7 0).toNat_lt
   generalize (l.getD 0 0).toNat=y0 at *
   generalize (l.getD 1 0).toNat=y1 at *
   generalize (l.getD 2 0).toNat=y2 at *
   generalize (l.getD 3 0).toNat=y3 at *
   generalize (l.getD 4 0).toNat=y4 at *
   generalize (l.getD 5 0).toNat=y5 at *
   generalize (l.getD 6 0).toNat=y6 at *
   generalize (l.getD 7 0).toNat=y7 at *
   generalize (l.getD 8 0).toNat=y8 at *
   generalize hcs:(csum (l.take 8)).toNat=cs at *
   have HCS:=zH hcs;clear hcs
   by_cases hk:chkR ⟨(y0:Int),⟨(y1:Int),256*(y2:Int)+(y3:Int),(y4:Int),(y5:Int),(y6:Int),(y7:Int)⟩⟩=0
   ·rw [if_neg (by rw [hk];simp)]
    have HK:=zH hk;clear hk
    go_enter Tryz.func106,Tryz.ntmps106
    go_wp2
    refine wp_region_lex (fun W=>W.cell? ⟨g,off+8,none⟩=some (.int .u8 (y8:Int))) [2] (by kernel_rfl) (by kernel_rfl) (by go_simp) ?_
    repeat (first|(refine LexL.none (by rfl) ?_;(try simp only [zP,zA,zB,zC]))|(refine LexL.still (v:=?_) (by rfl) ?_ ?_;rotate_left;(focus (intro W hW;(try dsimp only at hW);go_simp;(try (with_reducible rfl));done));(try simp only [zP,zA,zB,zC])))
    refine LexL.call (f:=124) (args:=#[.slice (some ⟨g,off,none⟩) 8 c]) (w1:=(w.alloc (.cells #[zI zi 0,zI zi 0,zI zi 0,zI zi 0,zI zi 0,zI zi 0,zI zi 0] 103)).drew) (by rfl) (by decide) (by go_simp) ?_
    refine (csum_any _ (l.take 8) _ (HT.out.upd (Upd.drew (Upd.alloc (F:=fun _=>False) (Upd.refl _ _) _)) (fun _ _ h=>h)) (by simp;omega)).mono ?_
    rw [HCS.out]
    rintro e w1 ⟨rfl,rfl⟩
    refine ⟨_,rfl,by go_simp,?_⟩
    try simp only [zP,zA,zB,zC]
    repeat (first|(refine LexL.none (by rfl) ?_;(try simp only [zP,zA,zB,zC]))|(refine LexL.still (v:=?_) (by rfl) ?_ ?_;rotate_left;(focus (intro W hW;(try dsimp only at hW);go_simp;(try (with_reducible rfl));done));(try simp only [zP,zA,zB,zC])))
    refine LexL.done ?_
    go_wp2
    refine wp_region_lex (fun W=>W.cell? ⟨g,off,none⟩=some (.int .u8 (y0:Int))∧W.cell? ⟨g,off+1,none⟩=some (.int .u8 (y1:Int))∧W.cell? ⟨g,off+2,none⟩=some (.int .u8 (y2:Int))∧W.cell? ⟨g,off+3,none⟩=some (.int .u8 (y3:Int))∧W.cell? ⟨g,off+4,none⟩=some (.int .u8 (y4:Int))∧W.cell? ⟨g,off+5,none⟩=some (.int .u8 (y5:Int))∧W.cell? ⟨g,off+6,none⟩=some (.int .u8 (y6:Int))∧W.cell? ⟨g,off+7,none⟩=some (.int .u8 (y7:Int))) [36,37] (by kernel_rfl) (by kernel_rfl) (by refine ⟨?_,?_,?_,?_,?_,?_,?_,?_⟩<;>go_simp) ?_
    repeat (first|(refine LexL.none (by rfl) ?_;(try simp only [zP,zA,zB,zC]))|(refine LexL.still (v:=?_) (by rfl) ?_ ?_;rotate_left;(focus (intro W hW;(try dsimp only at hW);go_simp;(try (with_reducible rfl));done));(try simp only [zP,zA,zB,zC])))
    refine LexL.value (v:=.pointer (some ⟨w.heap.size+1,0,none⟩)) (w1:=(w.alloc (.cells #[zI zi 0,zI zi 0,zI zi 0,zI zi 0,zI zi 0,zI zi 0,zI zi 0] 103)).drew.drew.alloc (.cells #[zI zi 0,zI zi 0,zI zi 0,zI zi 0,zI zi 0,zI zi 0,zI zi 0] 103)) (by rfl) (by decide) (by go_simp) (by refine ⟨?_,?_,?_,?_,?_,?_,?_,?_⟩<;>go_simp) ?_
    try simp only [zP,zA,zB,zC]
    refine LexL.store (by rfl) (by decide) (by go_simp;rfl) (by refine ⟨?_,?_,?_,?_,?_,?_,?_,?_⟩<;>go_simp) ?_
    try simp only [zP,zA,zB,zC]
    refine LexL.done ?_
    go_wp2_with fail
    refine (ccheck_any _ _ _ _ _ _ _ _).mono ?_
    rw [HK.out]
    rintro e w2 ⟨rfl,hb⟩
    have hb0:=(((Below.refl w.heap.size w).alloc (Nat.le_refl _) (.cells #[zI zi 0,zI zi 0,zI zi 0,zI zi 0,zI zi 0,zI zi 0,zI zi 0] 103)).alloc (by simp) (.cells #[zI zi y0,zI zi y1,zI zi (256*y2+y3),zI zi y4,zI zi y5,zI zi y6,zI zi y7] 103)).drew.drew
    have hx:=((BlockAt.new w 103 [zI zi 0,zI zi 0,zI zi 0,zI zi 0,zI zi 0,zI zi 0,zI zi 0]).alloc (.cells #[zI zi y0,zI zi y1,zI zi (256*y2+y3),zI zi y4,zI zi y5,zI zi y6,zI zi y7] 103)).drew.drew.below hb (by simp;omega)
    have hy:=(BlockAt.new (w.alloc (.cells #[zI zi 0,zI zi 0,zI zi 0,zI zi 0,zI zi 0,zI zi 0,zI zi 0] 103)) 103 [zI zi y0,zI zi y1,zI zi (256*y2+y3),zI zi y4,zI zi y5,zI zi y6,zI zi y7]).drew.drew.below hb (by simp)
    rw [World.size_alloc] at hy
    have hb2:=hb0.trans (hb.mono (by simp;omega))
    have k1:=hx.cells
    have f1:=hx.frees
    have l1:=hx.lt
    have k2:=hy.cells
    have f2:=hy.frees
    have l2:=hy.lt
    have HB2:=zH hb2
    clear hb hb0 hb2 hx hy
    go_wp2
    refine bodyPost_ret (v:=.tuple #[.agg #[zI zi y0,zI zi y1,zI zi (256*y2+y3),zI zi y4,zI zi y5,zI zi y6,zI zi y7],zI zi 0]) (by simp [results,Tryz.results106,go_sem,k1,k2,l1,l2,f1,f2]) rfl ⟨rfl,?_⟩
    iterate 7 refine Below.setCell ?_ (by exact Nat.le_refl _) _
    exact HB2.out
   ·rw [if_pos hk]
    obtain ⟨C,hC⟩:∃ C,chkR ⟨(y0:Int),⟨(y1:Int),256*(y2:Int)+(y3:Int),(y4:Int),(y5:Int),(y6:Int),(y7:Int)⟩⟩=C:=⟨_,rfl⟩
    rw [hC] at hk
    have hk1:(C != 0)=true:=by simpa using hk
    rw [hC]
    have HK:=zH hC;clear hC hk
    go_enter Tryz.func106,Tryz.ntmps106
    go_wp2
    refine wp_region_lex (fun W=>W.cell? ⟨g,off+8,none⟩=some (.int .u8 (y8:Int))) [2] (by kernel_rfl) (by kernel_rfl) (by go_simp) ?_
    repeat (first|(refine LexL.none (by rfl) ?_;(try simp only [zP,zA,zB,zC]))|(refine LexL.still (v:=?_) (by rfl) ?_ ?_;rotate_left;(focus (intro W hW;(try dsimp only at hW);go_simp;(try (with_reducible rfl));done));(try simp only [zP,zA,zB,zC])))
    refine LexL.call (f:=124) (args:=#[.slice (some ⟨g,off,none⟩) 8 c]) (w1:=(w.alloc (.cells #[zI zi 0,zI zi 0,zI zi 0,zI zi 0,zI zi 0,zI zi 0,zI zi 0] 103)).drew) (by rfl) (by decide) (by go_simp) ?_
    refine (csum_any _ (l.take 8) _ (HT.out.upd (Upd.drew (Upd.alloc (F:=fun _=>False) (Upd.refl _ _) _)) (fun _ _ h=>h)) (by simp;omega)).mono ?_
    rw [HCS.out]
    rintro e w1 ⟨rfl,rfl⟩
    refine ⟨_,rfl,by go_simp,?_⟩
    try simp only [zP,zA,zB,zC]
    repeat (first|(refine LexL.none (by rfl) ?_;(try simp only [zP,zA,zB,zC]))|(refine LexL.still (v:=?_) (by rfl) ?_ ?_;rotate_left;(focus (intro W hW;(try dsimp only at hW);go_simp;(try (with_reducible rfl));done));(try simp only [zP,zA,zB,zC])))
    refine LexL.done ?_
    go_wp2
    refine wp_region_lex (fun W=>W.cell? ⟨g,off,none⟩=some (.int .u8 (y0:Int))∧W.cell? ⟨g,off+1,none⟩=some (.int .u8 (y1:Int))∧W.cell? ⟨g,off+2,none⟩=some (.int .u8 (y2:Int))∧W.cell? ⟨g,off+3,none⟩=some (.int .u8 (y3:Int))∧W.cell? ⟨g,off+4,none⟩=some (.int .u8 (y4:Int))∧W.cell? ⟨g,off+5,none⟩=some (.int .u8 (y5:Int))∧W.cell? ⟨g,off+6,none⟩=some (.int .u8 (y6:Int))∧W.cell? ⟨g,off+7,none⟩=some (.int .u8 (y7:Int))) [36,37] (by kernel_rfl) (by kernel_rfl) (by refine ⟨?_,?_,?_,?_,?_,?_,?_,?_⟩<;>go_simp) ?_
    repeat (first|(refine LexL.none (by rfl) ?_;(try simp only [zP,zA,zB,zC]))|(refine LexL.still (v:=?_) (by rfl) ?_ ?_;rotate_left;(focus (intro W hW;(try dsimp only at hW);go_simp;(try (with_reducible rfl));done));(try simp only [zP,zA,zB,zC])))
    refine LexL.value (v:=.pointer (some ⟨w.heap.size+1,0,none⟩)) (w1:=(w.alloc (.cells #[zI zi 0,zI zi 0,zI zi 0,zI zi 0,zI zi 0,zI zi 0,zI zi 0] 103)).drew.drew.alloc (.cells #[zI zi 0,zI zi 0,zI zi 0,zI zi 0,zI zi 0,zI zi 0,zI zi 0] 103)) (by rfl) (by decide) (by go_simp) (by refine ⟨?_,?_,?_,?_,?_,?_,?_,?_⟩<;>go_simp) ?_
    try simp only [zP,zA,zB,zC]
    refine LexL.store (by rfl) (by decide) (by go_simp;rfl) (by refine ⟨?_,?_,?_,?_,?_,?_,?_,?_⟩<;>go_simp) ?_
    try simp only [zP,zA,zB,zC]
    refine LexL.done ?_
    go_wp2_with fail
    refine (ccheck_any _ _ _ _ _ _ _ _).mono ?_
    rw [HK.out]
    rintro e w2 ⟨rfl,hb⟩
    have hb0:=(((Below.refl w.heap.size w).alloc (Nat.le_refl _) (.cells #[zI zi 0,zI zi 0,zI zi 0,zI zi 0,zI zi 0,zI zi 0,zI zi 0] 103)).alloc (by simp) (.cells #[zI zi y0,zI zi y1,zI zi (256*y2+y3),zI zi y4,zI zi y5,zI zi y6,zI zi y7] 103)).drew.drew
    have hx:=((BlockAt.new w 103 [zI zi 0,zI zi 0,zI zi 0,zI zi 0,zI zi 0,zI zi 0,zI zi 0]).alloc (.cells #[zI zi y0,zI zi y1,zI zi (256*y2+y3),zI zi y4,zI zi y5,zI zi y6,zI zi y7] 103)).drew.drew.below hb (by simp;omega)
    have hy:=(BlockAt.new (w.alloc (.cells #[zI zi 0,zI zi 0,zI zi 0,zI zi 0,zI zi 0,zI zi 0,zI zi 0] 103)) 103 [zI zi y0,zI zi y1,zI zi (256*y2+y3),zI zi y4,zI zi y5,zI zi y6,zI zi y7]).drew.drew.below hb (by simp)
    rw [World.size_alloc] at hy
    have hb2:=hb0.trans (hb.mono (by simp;omega))
    have k1:=hx.cells
    have f1:=hx.frees
    have l1:=hx.lt
    have k2:=hy.cells
    have f2:=hy.frees
    have l2:=hy.lt
    have HB2:=zH hb2
    clear hb hb0 hb2 hx hy
    go_wp2
    refine bodyPost_ret (v:=.tuple #[.agg #[zI zi 0,zI zi 0,zI zi 0,zI zi 0,zI zi 0,zI zi 0,zI zi 0],zI zi C]) (by simp [results,Tryz.results106,go_sem,k1,k2,l1,l2,f1,f2]) rfl ⟨rfl,?_⟩
    iterate 7 refine Below.setCell ?_ (by exact Nat.le_refl _) _
    exact HB2.out
  ·have hs2:(((csum (l.take 8)).toNat:Int) != ((l.getD 8 0).toNat:Int))=true:=u8_ne _ _ hs
   rw [show decB l=(Rec.zero,2) by rw [decB,if_neg h9,if_pos hs]]
   generalize (l.getD 8 0).toNat=y8 at *
   generalize hcs:(csum (l.take 8)).toNat=cs at *
   have HCS:=zH hcs;clear hcs hc
   go_enter Tryz.func106,Tryz.ntmps106
   go_wp2
   refine wp_region_lex (fun W=>W.cell? ⟨g,off+8,none⟩=some (.int .u8 (y8:Int))) [2] (by kernel_rfl) (by kernel_rfl) (by go_simp) ?_
   repeat (first|(refine LexL.none (by rfl) ?_;(try simp only [zP,zA,zB,zC]))|(refine LexL.still (v:=?_) (by rfl) ?_ ?_;rotate_left;(focus (intro W hW;(try dsimp only at hW);go_simp;(try (with_reducible rfl));done));(try simp only [zP,zA,zB,zC])))
   refine LexL.call (f:=124) (args:=#[.slice (some ⟨g,off,none⟩) 8 c]) (w1:=(w.alloc (.cells #[zI zi 0,zI zi 0,zI zi 0,zI zi 0,zI zi 0,zI zi 0,zI zi 0] 103)).drew) (by rfl) (by decide) (by go_simp) ?_
   refine (csum_any _ (l.take 8) _ (HT.out.upd (Upd.drew (Upd.alloc (F:=fun _=>False) (Upd.refl _ _) _)) (fun _ _ h=>h)) (by simp;omega)).mono ?_
   rw [HCS.out]
   rintro e w1 ⟨rfl,rfl⟩
   refine ⟨_,rfl,by go_simp,?_⟩
   try simp only [zP,zA,zB,zC]
   repeat (first|(refine LexL.none (by rfl) ?_;(try simp only [zP,zA,zB,zC]))|(refine LexL.still (v:=?_) (by rfl) ?_ ?_;rotate_left;(focus (intro W hW;(try dsimp only at hW);go_simp;(try (with_reducible rfl));done));(try simp only [zP,zA,zB,zC])))
   refine LexL.done ?_
   go_wp2
   refine bodyPost_ret (v:=.tuple #[.agg #[zI zi 0,zI zi 0,zI zi 0,zI zi 0,zI zi 0,zI zi 0,zI zi 0],zI zi 2]) (by simp [results,Tryz.results106,go_sem]) rfl ⟨rfl,?_⟩
   exact ((Below.refl _ _).alloc (Nat.le_refl _) _).drew
end Go.Proofs.YtfihmpkkpgmdhaaGreatDoor
