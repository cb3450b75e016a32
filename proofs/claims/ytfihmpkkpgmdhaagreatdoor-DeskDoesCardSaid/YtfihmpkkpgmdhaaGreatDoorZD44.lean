/-
  What the proof of DeskDoes leans on: definitions, laws, contracts of functions. No condition besides those that each theorem names.
-/
import Derived.Test.YtfihmpkkpgmdhaaGreatDoorZD32
set_option maxRecDepth 100000
set_option maxHeartbeats 16000000
set_option linter.unusedVariables false
set_option linter.unusedSimpArgs false
set_option linter.unnecessarySimpa false
namespace Go.Proofs.YtfihmpkkpgmdhaaGreatDoor
open Go.RowKit
open List renaming setIfInBounds_toArray → zA, set_cons_zero → zB, set_cons_succ → zC
open Go.Act renaming put → zP
open Go.Lib renaming hid → zH
open Go.Value renaming int → zI
open Go.IntKind renaming i64 → zi
theorem node_n1 (b bg:Nat) (told:List UInt8) (g:Gld) (v:Value) (w1:List UInt8) (w:World) {w0:World} {R:HP}
  (h:Holds w (kst b bg told*(gld bg g*(wds v [w1]*(lay w0*R))))) (hg:g.Good) (hs:∀ s∈[w1],s.length≤100000) (h1:w1≠tTear) (ht:told.length≤300000000) :
  Calls Tryz.prog 24 #[.pointer (some ⟨b,0,none⟩),v] w fun e w'=>e=.returned (.bool false)∧Quiet w w'∧Holds w' (kst b bg told*(gld bg g*(wds v [w1]*(lay w0*R)))):=by
 obtain ⟨gl,cl,rfl,c1,c2⟩:=wds_cons h.three
 simp only [List.length_nil,Nat.zero_add] at c1 h ⊢
 obtain ⟨wa,hwa,H0,Q0⟩:∃ wa,w.alloc (.cells #[zI zi 0,zI zi 0,zI zi 0,zI zi 0,zI zi 0,zI zi 0,zI zi 0,zI zi 0,zI zi 0] 86)=wa∧Hid (Holds wa (bl w.heap.size 86 (zstep 0)*(kst b bg told*(gld bg g*(wds (.slice (some ⟨gl,0,none⟩) 1 cl) [w1]*(lay w0*R))))))∧Hid (Quiet w wa):=
  ⟨_,rfl,zH (h.boxB (ty:=86) (cs:=zstep 0) rfl),zH ((Quiet.refl w).alloc _)⟩
 have HS:=zH hs;have HG:=zH hg
 have hb0:=bytes_no h1
 simp only [tTear] at hb0
 clear h hs hg h1
 obtain ⟨qx,hqx⟩:∃ qx,w.heap.size=qx:=⟨_,rfl⟩
 rw [hqx] at H0
 go_enter Tryz.func24,Tryz.ntmps24
 go_wp2_with (first|(refine wpList_built rfl 86 _ rfl (zstep 2) (by kernel_rfl) ?_)|(refine wpList_store_whole rfl 86 _ _ rfl qx (zstep 2) rfl rfl H0.out.bl rfl (by kernel_rfl) (by simp [Ones,zstep,Value.oneCell']) ?_;intro wb h1' h2' h3';have HB:=zH (H0.out.grown h2' h1');have QB:=zH (Q0.out.trans (Quiet.grown h2'));have l0:=wds_cells HB.out.four 0 _ rfl;clear h1' h2' h3'))
 go_ret
 exact ⟨rfl,QB.out,HB.out.right⟩
theorem node_n2 (b bg:Nat) (told:List UInt8) (g:Gld) (v:Value) (w1:List UInt8) (r0:List UInt8) (r:List (List UInt8))  (w:World) {w0:World} {R:HP}
  (h:Holds w (kst b bg told*(gld bg g*(wds v (w1::r0::r)*(lay w0*R))))) (hg:g.Good) (hl:r.length≤10000) (hs:∀ s∈w1::r0::r,s.length≤100000) (h1:w1≠tTear) (hr:numsOf (r0::r)=none) (ht:told.length≤300000000) :
  Calls Tryz.prog 24 #[.pointer (some ⟨b,0,none⟩),v] w fun e w'=>e=.returned (.bool false)∧Quiet w w'∧Holds w' (kst b bg told*(gld bg g*(wds v (w1::r0::r)*(lay w0*R)))):=by
 obtain ⟨gl,cl,rfl,c1,c2⟩:=wds_cons h.three
 simp only [List.length_cons] at c1 h ⊢
 obtain ⟨wa,hwa,H0,Q0⟩:∃ wa,w.alloc (.cells #[zI zi 0,zI zi 0,zI zi 0,zI zi 0,zI zi 0,zI zi 0,zI zi 0,zI zi 0,zI zi 0] 86)=wa∧Hid (Holds wa (bl w.heap.size 86 (zstep 0)*(kst b bg told*(gld bg g*(wds (.slice (some ⟨gl,0,none⟩) (r.length+1+1) cl) (w1::r0::r)*(lay w0*R))))))∧Hid (Quiet w wa):=
  ⟨_,rfl,zH (h.boxB (ty:=86) (cs:=zstep 0) rfl),zH ((Quiet.refl w).alloc _)⟩
 have HR:=zH hr;have HS:=zH hs;have HG:=zH hg
 have hb0:=bytes_no h1
 simp only [tTear] at hb0
 clear h hr hs hg h1
 obtain ⟨qx,hqx⟩:∃ qx,w.heap.size=qx:=⟨_,rfl⟩
 rw [hqx] at H0
 have hl2:¬ ((r.length:Int)+1+1<2):=by omega
 go_enter Tryz.func24,Tryz.ntmps24
 go_wp2_with (first|(refine wpList_built rfl 86 _ rfl (zstep 2) (by kernel_rfl) ?_)|(refine wpList_store_whole rfl 86 _ _ rfl qx (zstep 2) rfl rfl H0.out.bl rfl (by kernel_rfl) (by simp [Ones,zstep,Value.oneCell']) ?_;intro wb h1' h2' h3';have HB:=zH (H0.out.grown h2' h1');have QB:=zH (Q0.out.trans (Quiet.grown h2'));have l0:=wds_cells HB.out.four 0 _ rfl;clear h1' h2' h3'))
 have hv2:RowAt wb (.slice (some ⟨gl,1,none⟩) (r.length+1) (cl-1)) (r.length+1) (svls (r0::r)):=wds_tail HB.out.four rfl (q:=1) (m:=r.length+1) (d:=cl-1) (by omega) (by omega)
 refine (numbers_no _ (r0::r) _ (HB.out.eq (by ac_rfl:_=lay w0*(bl qx 86 (zstep 2)*(kst b bg told*(gld bg g*(wds (.slice (some ⟨gl,0,none⟩) (r.length+1+1) cl) (w1::r0::r)*R)))))) hv2 (by simp;omega) (fun s hs=>HS.out s (List.mem_cons_of_mem _ hs)) HR.out).mono ?_
 rintro e w5 ⟨rfl,q5,h5⟩
 have H5:=zH (h5.eq (by ac_rfl:_=bl qx 86 (zstep 2)*(kst b bg told*(gld bg g*(wds (.slice (some ⟨gl,0,none⟩) (r.length+1+1) cl) (w1::r0::r)*(lay w0*R))))));have Q5:=zH (QB.out.trans q5)
 clear h5 q5 hv2
 go_wp2
 go_ret
 exact ⟨rfl,Q5.out,H5.out.right⟩
theorem node_n3 (b bg:Nat) (told:List UInt8) (g:Gld) (v:Value) (w1:List UInt8) (r:List (List UInt8)) (n:Int) (m:List Int) (w:World) {w0:World} {R:HP}
  (h:Holds w (kst b bg told*(gld bg g*(wds v (w1::r)*(lay w0*R))))) (hg:g.Good) (hl:r.length≤10000) (hs:∀ s∈w1::r,s.length≤100000) (h1:w1≠tTear) (hr:numsOf r=some (n::m)) (hw:w1≠[]) (ho:orderOf w1 m=none) (ht:told.length≤300000000) :
  Calls Tryz.prog 24 #[.pointer (some ⟨b,0,none⟩),v] w fun e w'=>e=.returned (.bool false)∧Quiet w w'∧Holds w' (kst b bg told*(gld bg g*(wds v (w1::r)*(lay w0*R)))):=by
 have hrl:=numsOf_len hr
 obtain ⟨gl,cl,rfl,c1,c2⟩:=wds_cons h.three
 obtain ⟨wa,hwa,H0,Q0⟩:∃ wa,w.alloc (.cells #[zI zi 0,zI zi 0,zI zi 0,zI zi 0,zI zi 0,zI zi 0,zI zi 0,zI zi 0,zI zi 0] 86)=wa∧Hid (Holds wa (bl w.heap.size 86 (zstep 0)*(kst b bg told*(gld bg g*(wds (.slice (some ⟨gl,0,none⟩) (r.length+1) cl) (w1::r)*(lay w0*R))))))∧Hid (Quiet w wa):=
  ⟨_,rfl,zH (h.boxB (ty:=86) (cs:=zstep 0) rfl),zH ((Quiet.refl w).alloc _)⟩
 have HR:=zH hr;have HO:=zH ho;have HW:=zH hw;have HS:=zH hs;have HG:=zH hg
 have hb0:=bytes_no h1
 simp only [tTear] at hb0
 clear h hr ho hs hg h1
 obtain ⟨qx,hqx⟩:∃ qx,w.heap.size=qx:=⟨_,rfl⟩
 rw [hqx] at H0
 have hr2:r.length=m.length+1:=by rw [←hrl];rfl
 have hl2:¬ ((r.length:Int)+1<2):=by omega
 clear hrl
 go_enter Tryz.func24,Tryz.ntmps24
 go_wp2_with (first|(refine wpList_built rfl 86 _ rfl (zstep 2) (by kernel_rfl) ?_)|(refine wpList_store_whole rfl 86 _ _ rfl qx (zstep 2) rfl rfl H0.out.bl rfl (by kernel_rfl) (by simp [Ones,zstep,Value.oneCell']) ?_;intro wb h1' h2' h3';have HB:=zH (H0.out.grown h2' h1');have QB:=zH (Q0.out.trans (Quiet.grown h2'));have l0:=wds_cells HB.out.four 0 _ rfl;clear h1' h2' h3'))
 have hv2:RowAt wb (.slice (some ⟨gl,1,none⟩) (m.length+1) (cl-1)) r.length (svls r):=by rw [hr2];exact wds_tail HB.out.four (by simp<;>omega) (by omega) (by omega)
 refine (numbers_sl _ r (n::m) _ (HB.out.eq (by ac_rfl:_=lay w0*(bl qx 86 (zstep 2)*(kst b bg told*(gld bg g*(wds (.slice (some ⟨gl,0,none⟩) (r.length+1) cl) (w1::r)*R)))))) hv2 (by omega) (fun s hs=>HS.out s (List.mem_cons_of_mem _ hs)) HR.out).mono ?_
 rintro e w5 ⟨v5,rfl,q5,h5⟩
 obtain ⟨gn,cn,rfl,d1,d2⟩:=inum_cons h5
 have H5:=zH h5;have Q5:=zH (QB.out.trans q5)
 clear h5 q5 hv2
 go_wp2_with fail
 have l5:w5.drew.cell? ⟨gl,0,none⟩=some (.string (strOf w1)):=wds_cells (H5.out.drew.eq (by ac_rfl:_=wds (.slice (some ⟨gl,0,none⟩) (r.length+1) cl) (w1::r)*(inum (.slice (some ⟨gn,0,none⟩) (m.length+1) cn) (n::m)*(lay w0*(bl qx 86 (zstep 2)*(kst b bg told*(gld bg g*R))))))) 0 _ rfl
 refine wp_region_lexH (fun W=>W.cell? ⟨gl,0,none⟩=some (.string (strOf w1))) [5,10] [9] (fz1 9 84 zord) _ (by kernel_rfl) (by kernel_rfl) (by kernel_rfl) fz1_fl fz1_no (fz1_ok rfl ⟨rfl,fun a w=>by kernel_rfl⟩) (fun W o h=>cell_alloc_keep h o) l5 H5.out.drew ?_
 clear l5
 have hp1:(0:Int)<(m.length:Int)+1+1:=by omega
 have hp2:¬ (m.length:Int)+1<1:=by omega
 repeat (first|(refine LexHL.still (v:=?_) (by rfl) (by rfl) ?_ ?_;rotate_left;(focus (intro W hW;(try dsimp only at hW);go_simp;(try (with_reducible rfl));done));(try simp only [zP,zA,zB,zC])))
 obtain ⟨vn,hvn⟩:∃ vn:Option Addr,(if cn=1 then some ⟨gn,0,none⟩ else some ⟨gn,1,none⟩)=vn:=⟨_,rfl⟩
 have HVN:=zH hvn;clear hvn
 refine LexHL.still (v:=.slice vn m.length (cn-1)) rfl rfl (fun W hW=>by rw [←HVN.out];go_simp) ?_
 try simp only [zP,zA,zB,zC]
 refine LexHL.call (f:=42) (args:=#[.string (strOf w1),.slice vn m.length (cn-1)]) rfl rfl (by decide) (fun W hS=>by go_simp) ?_
 intro W R1 hS hq hA
 have hrow:RowAt W (.slice vn m.length (cn-1)) m.length (ivs m):=by
  rw [←HVN.out]
  have:=inum_tail (show Holds W (rw_ 3 1 (.slice (some ⟨gn,0,none⟩) (m.length+1) cn) (m.length+1) (ivs (n::m))*_) from hA.eq (HP.assoc _ _ _)) rfl (by omega)
  simpa using this
 refine (order_no _ w1 m W hrow HW.out HO.out hA).mono ?_
 rintro e w6 ⟨rfl,q6,h6⟩
 refine ⟨_,rfl,wds_cells (h6.eq (by ac_rfl:_=wds (.slice (some ⟨gl,0,none⟩) (r.length+1) cl) (w1::r)*(inum (.slice (some ⟨gn,0,none⟩) (m.length+1) cn) (n::m)*(lay w0*(bl qx 86 (zstep 2)*(kst b bg told*(gld bg g*R))))*R1))) 0 _ rfl,hq.trans q6,_,h6,?_⟩
 clear hS hq hA hrow q6 h6
 dsimp only
 repeat (first|(refine LexHL.still (v:=?_) (by rfl) (by rfl) ?_ ?_;rotate_left;(focus (intro W hW;(try dsimp only at hW);go_simp;(try (with_reducible rfl));done));(try simp only [zP,zA,zB,zC])))
 refine LexHL.made rfl ?_
 intro qo hlv
 clear hlv
 try simp only [zP,zA,zB,zC]
 refine LexHL.storeB (q:=qo) (t:=84) (cs:=zord) (B:=inum (.slice (some ⟨gn,0,none⟩) (m.length+1) cn) (n::m)*(lay w0*(bl qx 86 (zstep 2)*(kst b bg told*(gld bg g*(wds (.slice (some ⟨gl,0,none⟩) (r.length+1) cl) (w1::r)*R)))))) 84 _ _ rfl zord rfl rfl rfl (by kernel_rfl) (by simp [Ones,zord,Value.oneCell']) rfl rfl (by decide) rfl (fun W R2 h=>wds_cells (h.eq (by ac_rfl:_=wds (.slice (some ⟨gl,0,none⟩) (r.length+1) cl) (w1::r)*(bl qo 84 zord*(inum (.slice (some ⟨gn,0,none⟩) (m.length+1) cn) (n::m)*(lay w0*(bl qx 86 (zstep 2)*(kst b bg told*(gld bg g*R)))))*R2))) 0 _ rfl) ?_
 try simp only [zP,zA,zB,zC]
 repeat (first|(refine LexHL.still (v:=?_) (by rfl) (by rfl) ?_ ?_;rotate_left;(focus (intro W hW;(try dsimp only at hW);go_simp;(try (with_reducible rfl));done));(try simp only [zP,zA,zB,zC])))
 refine LexHL.done ?_
 intro W hS hA hq
 have HA:=zH hA;have QA:=zH (Q5.out.drew.trans hq)
 clear hS hA hq
 go_wp2
 go_ret
 have hf:=(HA.out.eq (by ac_rfl:_=bl qo 84 zord*inum (.slice (some ⟨gn,0,none⟩) (m.length+1) cn) (n::m)*bl qx 86 (zstep 2)*(kst b bg told*(gld bg g*(wds (.slice (some ⟨gl,0,none⟩) (r.length+1) cl) (w1::r)*(lay w0*R)))))).right
 rw [hr2] at hf
 exact ⟨rfl,QA.out,hf⟩
theorem node_t6 (b bg:Nat) (told:List UInt8) (g:Gld) (v:Value) (a w1:List UInt8) (r:List (List UInt8)) (k:Int) (n:Int) (m:List Int) (w:World) {w0:World} {R:HP}
  (h:Holds w (kst b bg told*(gld bg g*(wds v (tTear::a::w1::r)*(lay w0*R))))) (hg:g.Good) (hl:r.length≤10000) (hs:∀ s∈tTear::a::w1::r,s.length≤100000) (hk:numOf a=some k) (hr:numsOf r=some (n::m)) (hw:w1≠[]) (ho:orderOf w1 m=none) (ht:told.length≤300000000) :
  Calls Tryz.prog 24 #[.pointer (some ⟨b,0,none⟩),v] w fun e w'=>e=.returned (.bool false)∧Quiet w w'∧Holds w' (kst b bg told*(gld bg g*(wds v (tTear::a::w1::r)*(lay w0*R)))):=by
 have hrl:=numsOf_len hr
 obtain ⟨gl,cl,rfl,c1,c2⟩:=wds_cons h.three
 simp only [List.length_cons] at c1 h ⊢
 obtain ⟨wa,hwa,H0,Q0⟩:∃ wa,w.alloc (.cells #[zI zi 0,zI zi 0,zI zi 0,zI zi 0,zI zi 0,zI zi 0,zI zi 0,zI zi 0,zI zi 0] 86)=wa∧Hid (Holds wa (bl w.heap.size 86 (zstep 0)*(kst b bg told*(gld bg g*(wds (.slice (some ⟨gl,0,none⟩) (r.length+1+1+1) cl) (tTear::a::w1::r)*(lay w0*R))))))∧Hid (Quiet w wa):=
  ⟨_,rfl,zH (h.boxB (ty:=86) (cs:=zstep 0) rfl),zH ((Quiet.refl w).alloc _)⟩
 have HR:=zH hr;have HO:=zH ho;have HW:=zH hw;have HS:=zH hs;have HG:=zH hg
 have HK:=zH (show numsOf [a]=some [k] by simp [numsOf,hk])
 clear h hr ho hs hg hk
 obtain ⟨qx,hqx⟩:∃ qx,w.heap.size=qx:=⟨_,rfl⟩
 rw [hqx] at H0
 have hr2:r.length=m.length+1:=by rw [←hrl];rfl
 have hl2:¬ ((m.length:Int)+1+1+1+1<2):=by omega
 have hl3:¬ ((m.length:Int)+1+1<2):=by omega
 have hc1:¬ cl=1:=by omega
 have hc2:¬ cl=2:=by omega
 have hc3:¬ cl-2=1:=by omega
 obtain ⟨T,hT⟩:∃ T,strOf tTear=T:=⟨_,rfl⟩
 have hb0:(T.toList==[116,101,97,114])=true:=by rw [←hT];exact bytes_yes tTear
 have HT:=zH hT;clear hT
 clear hrl
 go_enter Tryz.func24,Tryz.ntmps24
 go_wp2_with (first|(refine wpList_built rfl 86 _ rfl (zstep 2) (by kernel_rfl) ?_)|(refine wpList_store_whole rfl 86 _ _ rfl qx (zstep 2) rfl rfl H0.out.bl rfl (by kernel_rfl) (by simp [Ones,zstep,Value.oneCell']) ?_;intro wb h1' h2' h3';have HB:=zH (H0.out.grown h2' h1');have QB:=zH (Q0.out.trans (Quiet.grown h2'));have l0:=wds_cells HB.out.four 0 _ rfl;rw [HT.out] at l0;clear h1' h2' h3'))
 have hv1:RowAt wb (.slice (some ⟨gl,1,none⟩) 1 (cl-1)) 1 (svls [a]):=wds_part HB.out.four rfl (q:=1) (m:=1) (d:=cl-1) (by omega) (by omega)
 refine (numbers_sl _ [a] [k] _ (HB.out.eq (by ac_rfl:_=lay w0*(bl qx 86 (zstep 2)*(kst b bg told*(gld bg g*(wds (.slice (some ⟨gl,0,none⟩) (r.length+1+1+1) cl) (tTear::a::w1::r)*R)))))) hv1 (by simp) (fun s hs=>HS.out s (by simp at hs;simp [hs])) HK.out).mono ?_
 rintro e w3 ⟨v3,rfl,q3,h3⟩
 obtain ⟨gk,ck,rfl,e1,e2⟩:=inum_cons h3
 replace h3:Holds w3 (inum (.slice (some ⟨gk,0,none⟩) 1 ck) [k]*(lay w0*(bl qx 86 (zstep 2)*(kst b bg told*(gld bg g*(wds (.slice (some ⟨gl,0,none⟩) (r.length+1+1+1) cl) (tTear::a::w1::r)*R)))))):=h3
 have HK3:=zH (h3.drew.eq (by ac_rfl:_=bl qx 86 (zstep 2)*(inum (.slice (some ⟨gk,0,none⟩) 1 ck) [k]*(kst b bg told*(gld bg g*(wds (.slice (some ⟨gl,0,none⟩) (r.length+1+1+1) cl) (tTear::a::w1::r)*(lay w0*R)))))))
 have QK3:=zH ((QB.out.trans q3).drew)
 have y0:=HK3.out.bl.cell 0 _ rfl;have f0:=HK3.out.bl.free 0;have y2:=HK3.out.bl.cell 2 _ rfl;have f2:=HK3.out.bl.free 2
 have y2':w3.cell? ⟨qx,2,none⟩=some (zI zi 0):=y2
 have f2':w3.frozen? ⟨qx,2,none⟩=false:=f2
 clear h3 q3 hv1
 go_wp2_with fail
 have HK4:=zH (HK3.out.setB 0 (zI zi 3))
 have HK5:=zH (HK4.out.setB 2 (zI zi k))
 refine wp_region_lex (fun W=>W.cell? ⟨gk,0,none⟩=some (zI zi k)) [4,6] (by kernel_rfl) (by kernel_rfl) (inum_cell HK3.out.two 0 _ rfl) ?_
 repeat (first|(refine LexL.none (by rfl) ?_;(try simp only [zP,zA,zB,zC]))|(refine LexL.still (v:=?_) (by rfl) ?_ ?_;rotate_left;(focus (intro W hW;(try dsimp only at hW);go_simp;(try (with_reducible rfl));done));(try simp only [zP,zA,zB,zC])))
 refine LexL.store (w1:=w3.drew.setCell ⟨qx,0,none⟩ (zI zi 3)) (by rfl) (by decide) (by go_simp) (inum_cell HK4.out.two 0 _ rfl) ?_
 try simp only [zP,zA,zB,zC]
 repeat (first|(refine LexL.none (by rfl) ?_;(try simp only [zP,zA,zB,zC]))|(refine LexL.still (v:=?_) (by rfl) ?_ ?_;rotate_left;(focus (intro W hW;(try dsimp only at hW);go_simp;(try (with_reducible rfl));done));(try simp only [zP,zA,zB,zC])))
 refine LexL.store (w1:=(w3.drew.setCell ⟨qx,0,none⟩ (zI zi 3)).setCell ⟨qx,2,none⟩ (zI zi k)) (by rfl) (by decide) (by go_simp) (inum_cell HK5.out.two 0 _ rfl) ?_
 try simp only [zP,zA,zB,zC]
 refine LexL.done ?_
 obtain ⟨wb2,hwb2⟩:∃ W,(w3.drew.setCell ⟨qx,0,none⟩ (zI zi 3)).setCell ⟨qx,2,none⟩ (zI zi k)=W:=⟨_,rfl⟩
 have hb2:=HK5.out
 have hq2:=((QK3.out.setCell ⟨qx,0,none⟩ (zI zi 3)).setCell ⟨qx,2,none⟩ (zI zi k))
 rw [hwb2] at hb2 hq2 ⊢
 have HB:=zH (show Holds wb2 (bl qx 86 [zI zi 3,zI zi 0,zI zi k,zI zi 0,zI zi 0,zI zi 0,zI zi 0,zI zi 0,zI zi 0]*(kst b bg told*(gld bg g*(wds (.slice (some ⟨gl,0,none⟩) (r.length+1+1+1) cl) (tTear::a::w1::r)*(lay w0*R))))) from hb2.two.right)
 have QB:=zH hq2
 clear hb2 hq2 hwb2 HK3 HK4 HK5 QK3 y0 f0 y2 f2 y2' f2' l0
 go_wp2_with fail
 have hv2:RowAt wb2 (.slice (some ⟨gl,3,none⟩) (m.length+1) (cl-2-1)) r.length (svls r):=by rw [hr2];exact wds_tail HB.out.four rfl (q:=3) (m:=m.length+1) (d:=cl-2-1) (by omega) (by omega)
 refine (numbers_sl _ r (n::m) _ (HB.out.eq (by ac_rfl:_=lay w0*(bl qx 86 [zI zi 3,zI zi 0,zI zi k,zI zi 0,zI zi 0,zI zi 0,zI zi 0,zI zi 0,zI zi 0]*(kst b bg told*(gld bg g*(wds (.slice (some ⟨gl,0,none⟩) (r.length+1+1+1) cl) (tTear::a::w1::r)*R)))))) hv2 (by omega) (fun s hs=>HS.out s (List.mem_cons_of_mem _ (List.mem_cons_of_mem _ (List.mem_cons_of_mem _ hs)))) HR.out).mono ?_
 rintro e w5 ⟨v5,rfl,q5,h5⟩
 obtain ⟨gn,cn,rfl,d1,d2⟩:=inum_cons h5
 have H5:=zH h5;have Q5:=zH (QB.out.trans q5)
 clear h5 q5 hv2
 go_wp2_with fail
 have l5:w5.drew.cell? ⟨gl,2,none⟩=some (.string (strOf w1)):=wds_cells (H5.out.drew.eq (by ac_rfl:_=wds (.slice (some ⟨gl,0,none⟩) (r.length+1+1+1) cl) (tTear::a::w1::r)*(inum (.slice (some ⟨gn,0,none⟩) (m.length+1) cn) (n::m)*(lay w0*(bl qx 86 [zI zi 3,zI zi 0,zI zi k,zI zi 0,zI zi 0,zI zi 0,zI zi 0,zI zi 0,zI zi 0]*(kst b bg told*(gld bg g*R))))))) 2 _ rfl
 refine wp_region_lexH (fun W=>W.cell? ⟨gl,2,none⟩=some (.string (strOf w1))) [5,10] [9] (fz1 9 84 zord) _ (by kernel_rfl) (by kernel_rfl) (by kernel_rfl) fz1_fl fz1_no (fz1_ok rfl ⟨rfl,fun a w=>by kernel_rfl⟩) (fun W o h=>cell_alloc_keep h o) l5 H5.out.drew ?_
 clear l5
 have hp1:(0:Int)<(m.length:Int)+2:=by omega
 have hp2:¬ (m.length:Int)+1<1:=by omega
 repeat (first|(refine LexHL.still (v:=?_) (by rfl) (by rfl) ?_ ?_;rotate_left;(focus (intro W hW;(try dsimp only at hW);go_simp;(try (with_reducible rfl));done));(try simp only [zP,zA,zB,zC])))
 obtain ⟨vn,hvn⟩:∃ vn:Option Addr,(if cn=1 then some ⟨gn,0,none⟩ else some ⟨gn,1,none⟩)=vn:=⟨_,rfl⟩
 have HVN:=zH hvn;clear hvn
 refine LexHL.still (v:=.slice vn m.length (cn-1)) rfl rfl (fun W hW=>by rw [←HVN.out];go_simp) ?_
 try simp only [zP,zA,zB,zC]
 refine LexHL.call (f:=42) (args:=#[.string (strOf w1),.slice vn m.length (cn-1)]) rfl rfl (by decide) (fun W hS=>by go_simp) ?_
 intro W R1 hS hq hA
 have hrow:RowAt W (.slice vn m.length (cn-1)) m.length (ivs m):=by
  rw [←HVN.out]
  have:=inum_tail (show Holds W (rw_ 3 1 (.slice (some ⟨gn,0,none⟩) (m.length+1) cn) (m.length+1) (ivs (n::m))*_) from hA.eq (HP.assoc _ _ _)) rfl (by omega)
  simpa using this
 refine (order_no _ w1 m W hrow HW.out HO.out hA).mono ?_
 rintro e w6 ⟨rfl,q6,h6⟩
 refine ⟨_,rfl,wds_cells (h6.eq (by ac_rfl:_=wds (.slice (some ⟨gl,0,none⟩) (r.length+1+1+1) cl) (tTear::a::w1::r)*(inum (.slice (some ⟨gn,0,none⟩) (m.length+1) cn) (n::m)*(lay w0*(bl qx 86 [zI zi 3,zI zi 0,zI zi k,zI zi 0,zI zi 0,zI zi 0,zI zi 0,zI zi 0,zI zi 0]*(kst b bg told*(gld bg g*R))))*R1))) 2 _ rfl,hq.trans q6,_,h6,?_⟩
 clear hS hq hA hrow q6 h6
 dsimp only
 repeat (first|(refine LexHL.still (v:=?_) (by rfl) (by rfl) ?_ ?_;rotate_left;(focus (intro W hW;(try dsimp only at hW);go_simp;(try (with_reducible rfl));done));(try simp only [zP,zA,zB,zC])))
 refine LexHL.made rfl ?_
 intro qo hlv
 clear hlv
 try simp only [zP,zA,zB,zC]
 refine LexHL.storeB (q:=qo) (t:=84) (cs:=zord) (B:=inum (.slice (some ⟨gn,0,none⟩) (m.length+1) cn) (n::m)*(lay w0*(bl qx 86 [zI zi 3,zI zi 0,zI zi k,zI zi 0,zI zi 0,zI zi 0,zI zi 0,zI zi 0,zI zi 0]*(kst b bg told*(gld bg g*(wds (.slice (some ⟨gl,0,none⟩) (r.length+1+1+1) cl) (tTear::a::w1::r)*R)))))) 84 _ _ rfl zord rfl rfl rfl (by kernel_rfl) (by simp [Ones,zord,Value.oneCell']) rfl rfl (by decide) rfl (fun W R2 h=>wds_cells (h.eq (by ac_rfl:_=wds (.slice (some ⟨gl,0,none⟩) (r.length+1+1+1) cl) (tTear::a::w1::r)*(bl qo 84 zord*(inum (.slice (some ⟨gn,0,none⟩) (m.length+1) cn) (n::m)*(lay w0*(bl qx 86 [zI zi 3,zI zi 0,zI zi k,zI zi 0,zI zi 0,zI zi 0,zI zi 0,zI zi 0,zI zi 0]*(kst b bg told*(gld bg g*R)))))*R2))) 2 _ rfl) ?_
 try simp only [zP,zA,zB,zC]
 repeat (first|(refine LexHL.still (v:=?_) (by rfl) (by rfl) ?_ ?_;rotate_left;(focus (intro W hW;(try dsimp only at hW);go_simp;(try (with_reducible rfl));done));(try simp only [zP,zA,zB,zC])))
 refine LexHL.done ?_
 intro W hS hA hq
 have HA:=zH hA;have QA:=zH (Q5.out.drew.trans hq)
 clear hS hA hq
 go_wp2
 go_ret
 have hf:=(HA.out.eq (by ac_rfl:_=bl qo 84 zord*inum (.slice (some ⟨gn,0,none⟩) (m.length+1) cn) (n::m)*bl qx 86 [zI zi 3,zI zi 0,zI zi k,zI zi 0,zI zi 0,zI zi 0,zI zi 0,zI zi 0,zI zi 0]*(kst b bg told*(gld bg g*(wds (.slice (some ⟨gl,0,none⟩) (r.length+1+1+1) cl) (tTear::a::w1::r)*(lay w0*R)))))).right
 rw [hr2] at hf
 exact ⟨rfl,QA.out,hf⟩
theorem node_t5 (b bg:Nat) (told:List UInt8) (g:Gld) (v:Value) (a w1:List UInt8) (r0:List UInt8) (r:List (List UInt8)) (k:Int)  (w:World) {w0:World} {R:HP}
  (h:Holds w (kst b bg told*(gld bg g*(wds v (tTear::a::w1::r0::r)*(lay w0*R))))) (hg:g.Good) (hl:r.length≤10000) (hs:∀ s∈tTear::a::w1::r0::r,s.length≤100000) (hk:numOf a=some k) (hr:numsOf (r0::r)=none) (ht:told.length≤300000000) :
  Calls Tryz.prog 24 #[.pointer (some ⟨b,0,none⟩),v] w fun e w'=>e=.returned (.bool false)∧Quiet w w'∧Holds w' (kst b bg told*(gld bg g*(wds v (tTear::a::w1::r0::r)*(lay w0*R)))):=by
 obtain ⟨gl,cl,rfl,c1,c2⟩:=wds_cons h.three
 simp only [List.length_cons] at c1 h ⊢
 obtain ⟨wa,hwa,H0,Q0⟩:∃ wa,w.alloc (.cells #[zI zi 0,zI zi 0,zI zi 0,zI zi 0,zI zi 0,zI zi 0,zI zi 0,zI zi 0,zI zi 0] 86)=wa∧Hid (Holds wa (bl w.heap.size 86 (zstep 0)*(kst b bg told*(gld bg g*(wds (.slice (some ⟨gl,0,none⟩) (r.length+1+1+1+1) cl) (tTear::a::w1::r0::r)*(lay w0*R))))))∧Hid (Quiet w wa):=
  ⟨_,rfl,zH (h.boxB (ty:=86) (cs:=zstep 0) rfl),zH ((Quiet.refl w).alloc _)⟩
 have HR:=zH hr;have HS:=zH hs;have HG:=zH hg
 have HK:=zH (show numsOf [a]=some [k] by simp [numsOf,hk])
 clear h hr hs hg hk
 obtain ⟨qx,hqx⟩:∃ qx,w.heap.size=qx:=⟨_,rfl⟩
 rw [hqx] at H0
 have hl2:¬ ((r.length:Int)+1+1+1+1<2):=by omega
 have hl3:¬ ((r.length:Int)+1+1<2):=by omega
 have hc1:¬ cl=1:=by omega
 have hc2:¬ cl=2:=by omega
 have hc3:¬ cl-2=1:=by omega
 obtain ⟨T,hT⟩:∃ T,strOf tTear=T:=⟨_,rfl⟩
 have hb0:(T.toList==[116,101,97,114])=true:=by rw [←hT];exact bytes_yes tTear
 have HT:=zH hT;clear hT
 go_enter Tryz.func24,Tryz.ntmps24
 go_wp2_with (first|(refine wpList_built rfl 86 _ rfl (zstep 2) (by kernel_rfl) ?_)|(refine wpList_store_whole rfl 86 _ _ rfl qx (zstep 2) rfl rfl H0.out.bl rfl (by kernel_rfl) (by simp [Ones,zstep,Value.oneCell']) ?_;intro wb h1' h2' h3';have HB:=zH (H0.out.grown h2' h1');have QB:=zH (Q0.out.trans (Quiet.grown h2'));have l0:=wds_cells HB.out.four 0 _ rfl;rw [HT.out] at l0;clear h1' h2' h3'))
 have hv1:RowAt wb (.slice (some ⟨gl,1,none⟩) 1 (cl-1)) 1 (svls [a]):=wds_part HB.out.four rfl (q:=1) (m:=1) (d:=cl-1) (by omega) (by omega)
 refine (numbers_sl _ [a] [k] _ (HB.out.eq (by ac_rfl:_=lay w0*(bl qx 86 (zstep 2)*(kst b bg told*(gld bg g*(wds (.slice (some ⟨gl,0,none⟩) (r.length+1+1+1+1) cl) (tTear::a::w1::r0::r)*R)))))) hv1 (by simp) (fun s hs=>HS.out s (by simp at hs;simp [hs])) HK.out).mono ?_
 rintro e w3 ⟨v3,rfl,q3,h3⟩
 obtain ⟨gk,ck,rfl,e1,e2⟩:=inum_cons h3
 replace h3:Holds w3 (inum (.slice (some ⟨gk,0,none⟩) 1 ck) [k]*(lay w0*(bl qx 86 (zstep 2)*(kst b bg told*(gld bg g*(wds (.slice (some ⟨gl,0,none⟩) (r.length+1+1+1+1) cl) (tTear::a::w1::r0::r)*R)))))):=h3
 have HK3:=zH (h3.drew.eq (by ac_rfl:_=bl qx 86 (zstep 2)*(inum (.slice (some ⟨gk,0,none⟩) 1 ck) [k]*(kst b bg told*(gld bg g*(wds (.slice (some ⟨gl,0,none⟩) (r.length+1+1+1+1) cl) (tTear::a::w1::r0::r)*(lay w0*R)))))))
 have QK3:=zH ((QB.out.trans q3).drew)
 have y0:=HK3.out.bl.cell 0 _ rfl;have f0:=HK3.out.bl.free 0;have y2:=HK3.out.bl.cell 2 _ rfl;have f2:=HK3.out.bl.free 2
 have y2':w3.cell? ⟨qx,2,none⟩=some (zI zi 0):=y2
 have f2':w3.frozen? ⟨qx,2,none⟩=false:=f2
 clear h3 q3 hv1
 go_wp2_with fail
 have HK4:=zH (HK3.out.setB 0 (zI zi 3))
 have HK5:=zH (HK4.out.setB 2 (zI zi k))
 refine wp_region_lex (fun W=>W.cell? ⟨gk,0,none⟩=some (zI zi k)) [4,6] (by kernel_rfl) (by kernel_rfl) (inum_cell HK3.out.two 0 _ rfl) ?_
 repeat (first|(refine LexL.none (by rfl) ?_;(try simp only [zP,zA,zB,zC]))|(refine LexL.still (v:=?_) (by rfl) ?_ ?_;rotate_left;(focus (intro W hW;(try dsimp only at hW);go_simp;(try (with_reducible rfl));done));(try simp only [zP,zA,zB,zC])))
 refine LexL.store (w1:=w3.drew.setCell ⟨qx,0,none⟩ (zI zi 3)) (by rfl) (by decide) (by go_simp) (inum_cell HK4.out.two 0 _ rfl) ?_
 try simp only [zP,zA,zB,zC]
 repeat (first|(refine LexL.none (by rfl) ?_;(try simp only [zP,zA,zB,zC]))|(refine LexL.still (v:=?_) (by rfl) ?_ ?_;rotate_left;(focus (intro W hW;(try dsimp only at hW);go_simp;(try (with_reducible rfl));done));(try simp only [zP,zA,zB,zC])))
 refine LexL.store (w1:=(w3.drew.setCell ⟨qx,0,none⟩ (zI zi 3)).setCell ⟨qx,2,none⟩ (zI zi k)) (by rfl) (by decide) (by go_simp) (inum_cell HK5.out.two 0 _ rfl) ?_
 try simp only [zP,zA,zB,zC]
 refine LexL.done ?_
 obtain ⟨wb2,hwb2⟩:∃ W,(w3.drew.setCell ⟨qx,0,none⟩ (zI zi 3)).setCell ⟨qx,2,none⟩ (zI zi k)=W:=⟨_,rfl⟩
 have hb2:=HK5.out
 have hq2:=((QK3.out.setCell ⟨qx,0,none⟩ (zI zi 3)).setCell ⟨qx,2,none⟩ (zI zi k))
 rw [hwb2] at hb2 hq2 ⊢
 have HB:=zH (show Holds wb2 (bl qx 86 [zI zi 3,zI zi 0,zI zi k,zI zi 0,zI zi 0,zI zi 0,zI zi 0,zI zi 0,zI zi 0]*(kst b bg told*(gld bg g*(wds (.slice (some ⟨gl,0,none⟩) (r.length+1+1+1+1) cl) (tTear::a::w1::r0::r)*(lay w0*R))))) from hb2.two.right)
 have QB:=zH hq2
 clear hb2 hq2 hwb2 HK3 HK4 HK5 QK3 y0 f0 y2 f2 y2' f2' l0
 go_wp2_with fail
 have hv2:RowAt wb2 (.slice (some ⟨gl,3,none⟩) (r.length+1) (cl-2-1)) (r.length+1) (svls (r0::r)):=wds_tail HB.out.four rfl (q:=3) (m:=r.length+1) (d:=cl-2-1) (by omega) (by omega)
 refine (numbers_no _ (r0::r) _ (HB.out.eq (by ac_rfl:_=lay w0*(bl qx 86 [zI zi 3,zI zi 0,zI zi k,zI zi 0,zI zi 0,zI zi 0,zI zi 0,zI zi 0,zI zi 0]*(kst b bg told*(gld bg g*(wds (.slice (some ⟨gl,0,none⟩) (r.length+1+1+1+1) cl) (tTear::a::w1::r0::r)*R)))))) hv2 (by simp;omega) (fun s hs=>HS.out s (List.mem_cons_of_mem _ (List.mem_cons_of_mem _ (List.mem_cons_of_mem _ hs)))) HR.out).mono ?_
 rintro e w5 ⟨rfl,q5,h5⟩
 have H5:=zH (h5.eq (by ac_rfl:_=bl qx 86 [zI zi 3,zI zi 0,zI zi k,zI zi 0,zI zi 0,zI zi 0,zI zi 0,zI zi 0,zI zi 0]*(kst b bg told*(gld bg g*(wds (.slice (some ⟨gl,0,none⟩) (r.length+1+1+1+1) cl) (tTear::a::w1::r0::r)*(lay w0*R))))));have Q5:=zH (QB.out.trans q5)
 clear h5 q5 hv2
 go_wp2
 go_ret
 exact ⟨rfl,Q5.out,H5.out.right⟩
theorem node_t1 (b bg:Nat) (told:List UInt8) (g:Gld) (v:Value)  (w:World) {w0:World} {R:HP}
  (h:Holds w (kst b bg told*(gld bg g*(wds v [tTear]*(lay w0*R))))) (hg:g.Good) (hs:∀ s∈[tTear],s.length≤100000) (ht:told.length≤300000000) :
  Calls Tryz.prog 24 #[.pointer (some ⟨b,0,none⟩),v] w fun e w'=>e=.returned (.bool false)∧Quiet w w'∧Holds w' (kst b bg told*(gld bg g*(wds v [tTear]*(lay w0*R)))):=by
 obtain ⟨gl,cl,rfl,c1,c2⟩:=wds_cons h.three
 simp only [List.length_nil,Nat.zero_add] at c1 h ⊢
 obtain ⟨wa,hwa,H0,Q0⟩:∃ wa,w.alloc (.cells #[zI zi 0,zI zi 0,zI zi 0,zI zi 0,zI zi 0,zI zi 0,zI zi 0,zI zi 0,zI zi 0] 86)=wa∧Hid (Holds wa (bl w.heap.size 86 (zstep 0)*(kst b bg told*(gld bg g*(wds (.slice (some ⟨gl,0,none⟩) 1 cl) [tTear]*(lay w0*R))))))∧Hid (Quiet w wa):=
  ⟨_,rfl,zH (h.boxB (ty:=86) (cs:=zstep 0) rfl),zH ((Quiet.refl w).alloc _)⟩
 have HS:=zH hs;have HG:=zH hg
 clear h hs hg
 obtain ⟨qx,hqx⟩:∃ qx,w.heap.size=qx:=⟨_,rfl⟩
 rw [hqx] at H0
 obtain ⟨T,hT⟩:∃ T,strOf tTear=T:=⟨_,rfl⟩
 have hb0:(T.toList==[116,101,97,114])=true:=by rw [←hT];exact bytes_yes tTear
 have HT:=zH hT;clear hT
 go_enter Tryz.func24,Tryz.ntmps24
 go_wp2_with (first|(refine wpList_built rfl 86 _ rfl (zstep 2) (by kernel_rfl) ?_)|(refine wpList_store_whole rfl 86 _ _ rfl qx (zstep 2) rfl rfl H0.out.bl rfl (by kernel_rfl) (by simp [Ones,zstep,Value.oneCell']) ?_;intro wb h1' h2' h3';have HB:=zH (H0.out.grown h2' h1');have QB:=zH (Q0.out.trans (Quiet.grown h2'));have l0:=wds_cells HB.out.four 0 _ rfl;rw [HT.out] at l0;clear h1' h2' h3'))
 go_ret
 exact ⟨rfl,QB.out,HB.out.right⟩
theorem node_t2 (b bg:Nat) (told:List UInt8) (g:Gld) (v:Value) (a:List UInt8) (r:List (List UInt8)) (w:World) {w0:World} {R:HP}
  (h:Holds w (kst b bg told*(gld bg g*(wds v (tTear::a::r)*(lay w0*R))))) (hg:g.Good) (hs:∀ s∈(tTear::a::r),s.length≤100000) (hk:numOf a=none) (ht:told.length≤300000000) :
  Calls Tryz.prog 24 #[.pointer (some ⟨b,0,none⟩),v] w fun e w'=>e=.returned (.bool false)∧Quiet w w'∧Holds w' (kst b bg told*(gld bg g*(wds v (tTear::a::r)*(lay w0*R)))):=by
 obtain ⟨gl,cl,rfl,c1,c2⟩:=wds_cons h.three
 simp only [List.length_cons,List.length_nil,Nat.zero_add] at c1 h ⊢
 obtain ⟨wa,hwa,H0,Q0⟩:∃ wa,w.alloc (.cells #[zI zi 0,zI zi 0,zI zi 0,zI zi 0,zI zi 0,zI zi 0,zI zi 0,zI zi 0,zI zi 0] 86)=wa∧Hid (Holds wa (bl w.heap.size 86 (zstep 0)*(kst b bg told*(gld bg g*(wds (.slice (some ⟨gl,0,none⟩) (r.length+1+1) cl) (tTear::a::r)*(lay w0*R))))))∧Hid (Quiet w wa):=
  ⟨_,rfl,zH (h.boxB (ty:=86) (cs:=zstep 0) rfl),zH ((Quiet.refl w).alloc _)⟩
 have HS:=zH hs;have HG:=zH hg
 have HK:=zH (show numsOf [a]=none by simp [numsOf,hk])
 clear h hs hg hk
 obtain ⟨qx,hqx⟩:∃ qx,w.heap.size=qx:=⟨_,rfl⟩
 rw [hqx] at H0
 obtain ⟨T,hT⟩:∃ T,strOf tTear=T:=⟨_,rfl⟩
 have hb0:(T.toList==[116,101,97,114])=true:=by rw [←hT];exact bytes_yes tTear
 have HT:=zH hT;clear hT
 go_enter Tryz.func24,Tryz.ntmps24
 go_wp2_with (first|(refine wpList_built rfl 86 _ rfl (zstep 2) (by kernel_rfl) ?_)|(refine wpList_store_whole rfl 86 _ _ rfl qx (zstep 2) rfl rfl H0.out.bl rfl (by kernel_rfl) (by simp [Ones,zstep,Value.oneCell']) ?_;intro wb h1' h2' h3';have HB:=zH (H0.out.grown h2' h1');have QB:=zH (Q0.out.trans (Quiet.grown h2'));have l0:=wds_cells HB.out.four 0 _ rfl;rw [HT.out] at l0;clear h1' h2' h3'))
 have hv1:RowAt wb (.slice (some ⟨gl,1,none⟩) 1 (cl-1)) 1 (svls [a]):=wds_part HB.out.four rfl (q:=1) (m:=1) (d:=cl-1) (by omega) (by omega)
 refine (numbers_no _ [a] _ (HB.out.eq (by ac_rfl:_=lay w0*(bl qx 86 (zstep 2)*(kst b bg told*(gld bg g*(wds (.slice (some ⟨gl,0,none⟩) (r.length+1+1) cl) (tTear::a::r)*R)))))) hv1 (by simp) (fun s hs=>HS.out s (by simp at hs;simp [hs])) HK.out).mono ?_
 rintro e w5 ⟨rfl,q5,h5⟩
 have H5:=zH (h5.eq (by ac_rfl:_=bl qx 86 (zstep 2)*(kst b bg told*(gld bg g*(wds (.slice (some ⟨gl,0,none⟩) (r.length+1+1) cl) (tTear::a::r)*(lay w0*R))))));have Q5:=zH (QB.out.trans q5)
 clear h5 q5 hv1
 go_wp2
 go_ret
 exact ⟨rfl,Q5.out,H5.out.right⟩
theorem node_t3 (b bg:Nat) (told:List UInt8) (g:Gld) (v:Value) (a:List UInt8) (k:Int) (w:World) {w0:World} {R:HP}
  (h:Holds w (kst b bg told*(gld bg g*(wds v [tTear,a]*(lay w0*R))))) (hg:g.Good) (hs:∀ s∈[tTear,a],s.length≤100000) (hk:numOf a=some k) (ht:told.length≤300000000) :
  Calls Tryz.prog 24 #[.pointer (some ⟨b,0,none⟩),v] w fun e w'=>e=.returned (.bool false)∧Quiet w w'∧Holds w' (kst b bg told*(gld bg g*(wds v [tTear,a]*(lay w0*R)))):=by
 obtain ⟨gl,cl,rfl,c1,c2⟩:=wds_cons h.three
 simp only [List.length_cons,List.length_nil,Nat.zero_add] at c1 h ⊢
 obtain ⟨wa,hwa,H0,Q0⟩:∃ wa,w.alloc (.cells #[zI zi 0,zI zi 0,zI zi 0,zI zi 0,zI zi 0,zI zi 0,zI zi 0,zI zi 0,zI zi 0] 86)=wa∧Hid (Holds wa (bl w.heap.size 86 (zstep 0)*(kst b bg told*(gld bg g*(wds (.slice (some ⟨gl,0,none⟩) 2 cl) [tTear,a]*(lay w0*R))))))∧Hid (Quiet w wa):=
  ⟨_,rfl,zH (h.boxB (ty:=86) (cs:=zstep 0) rfl),zH ((Quiet.refl w).alloc _)⟩
 have HS:=zH hs;have HG:=zH hg
 have HK:=zH (show numsOf [a]=some [k] by simp [numsOf,hk])
 clear h hs hg hk
 obtain ⟨qx,hqx⟩:∃ qx,w.heap.size=qx:=⟨_,rfl⟩
 rw [hqx] at H0
 obtain ⟨T,hT⟩:∃ T,strOf tTear=T:=⟨_,rfl⟩
 have hb0:(T.toList==[116,101,97,114])=true:=by rw [←hT];exact bytes_yes tTear
 have HT:=zH hT;clear hT
 go_enter Tryz.func24,Tryz.ntmps24
 go_wp2_with (first|(refine wpList_built rfl 86 _ rfl (zstep 2) (by kernel_rfl) ?_)|(refine wpList_store_whole rfl 86 _ _ rfl qx (zstep 2) rfl rfl H0.out.bl rfl (by kernel_rfl) (by simp [Ones,zstep,Value.oneCell']) ?_;intro wb h1' h2' h3';have HB:=zH (H0.out.grown h2' h1');have QB:=zH (Q0.out.trans (Quiet.grown h2'));have l0:=wds_cells HB.out.four 0 _ rfl;rw [HT.out] at l0;clear h1' h2' h3'))
 have hv1:RowAt wb (.slice (some ⟨gl,1,none⟩) 1 (cl-1)) 1 (svls [a]):=wds_part HB.out.four rfl (q:=1) (m:=1) (d:=cl-1) (by omega) (by omega)
 refine (numbers_sl _ [a] [k] _ (HB.out.eq (by ac_rfl:_=lay w0*(bl qx 86 (zstep 2)*(kst b bg told*(gld bg g*(wds (.slice (some ⟨gl,0,none⟩) 2 cl) [tTear,a]*R)))))) hv1 (by simp) (fun s hs=>HS.out s (by simp at hs;simp [hs])) HK.out).mono ?_
 rintro e w3 ⟨v3,rfl,q3,h3⟩
 obtain ⟨gk,ck,rfl,e1,e2⟩:=inum_cons h3
 replace h3:Holds w3 (inum (.slice (some ⟨gk,0,none⟩) 1 ck) [k]*(lay w0*(bl qx 86 (zstep 2)*(kst b bg told*(gld bg g*(wds (.slice (some ⟨gl,0,none⟩) 2 cl) [tTear,a]*R)))))):=h3
 have HK3:=zH (h3.drew.eq (by ac_rfl:_=bl qx 86 (zstep 2)*(inum (.slice (some ⟨gk,0,none⟩) 1 ck) [k]*(kst b bg told*(gld bg g*(wds (.slice (some ⟨gl,0,none⟩) 2 cl) [tTear,a]*(lay w0*R)))))))
 have QK3:=zH ((QB.out.trans q3).drew)
 have y0:=HK3.out.bl.cell 0 _ rfl;have f0:=HK3.out.bl.free 0;have y2:=HK3.out.bl.cell 2 _ rfl;have f2:=HK3.out.bl.free 2
 have y2':w3.cell? ⟨qx,2,none⟩=some (zI zi 0):=y2
 have f2':w3.frozen? ⟨qx,2,none⟩=false:=f2
 clear h3 q3 hv1
 go_wp2_with fail
 have HK4:=zH (HK3.out.setB 0 (zI zi 3))
 have HK5:=zH (HK4.out.setB 2 (zI zi k))
 refine wp_region_lex (fun W=>W.cell? ⟨gk,0,none⟩=some (zI zi k)) [4,6] (by kernel_rfl) (by kernel_rfl) (inum_cell HK3.out.two 0 _ rfl) ?_
 repeat (first|(refine LexL.none (by rfl) ?_;(try simp only [zP,zA,zB,zC]))|(refine LexL.still (v:=?_) (by rfl) ?_ ?_;rotate_left;(focus (intro W hW;(try dsimp only at hW);go_simp;(try (with_reducible rfl));done));(try simp only [zP,zA,zB,zC])))
 refine LexL.store (w1:=w3.drew.setCell ⟨qx,0,none⟩ (zI zi 3)) (by rfl) (by decide) (by go_simp) (inum_cell HK4.out.two 0 _ rfl) ?_
 try simp only [zP,zA,zB,zC]
 repeat (first|(refine LexL.none (by rfl) ?_;(try simp only [zP,zA,zB,zC]))|(refine LexL.still (v:=?_) (by rfl) ?_ ?_;rotate_left;(focus (intro W hW;(try dsimp only at hW);go_simp;(try (with_reducible rfl));done));(try simp only [zP,zA,zB,zC])))
 refine LexL.store (w1:=(w3.drew.setCell ⟨qx,0,none⟩ (zI zi 3)).setCell ⟨qx,2,none⟩ (zI zi k)) (by rfl) (by decide) (by go_simp) (inum_cell HK5.out.two 0 _ rfl) ?_
 try simp only [zP,zA,zB,zC]
 refine LexL.done ?_
 obtain ⟨wb2,hwb2⟩:∃ W,(w3.drew.setCell ⟨qx,0,none⟩ (zI zi 3)).setCell ⟨qx,2,none⟩ (zI zi k)=W:=⟨_,rfl⟩
 have hb2:=HK5.out
 have hq2:=((QK3.out.setCell ⟨qx,0,none⟩ (zI zi 3)).setCell ⟨qx,2,none⟩ (zI zi k))
 rw [hwb2] at hb2 hq2 ⊢
 have HB:=zH (show Holds wb2 (bl qx 86 [zI zi 3,zI zi 0,zI zi k,zI zi 0,zI zi 0,zI zi 0,zI zi 0,zI zi 0,zI zi 0]*(kst b bg told*(gld bg g*(wds (.slice (some ⟨gl,0,none⟩) 2 cl) [tTear,a]*(lay w0*R))))) from hb2.two.right)
 have QB:=zH hq2
 clear hb2 hq2 hwb2 HK3 HK4 HK5 QK3 y0 f0 y2 f2 y2' f2' l0
 by_cases hcl:cl=2
 ·subst hcl
  go_wp2
  go_ret
  exact ⟨rfl,QB.out,HB.out.right⟩
 ·go_wp2
  go_ret
  exact ⟨rfl,QB.out,HB.out.right⟩
theorem node_t4 (b bg:Nat) (told:List UInt8) (g:Gld) (v:Value) (a w1:List UInt8) (k:Int) (w:World) {w0:World} {R:HP}
  (h:Holds w (kst b bg told*(gld bg g*(wds v [tTear,a,w1]*(lay w0*R))))) (hg:g.Good) (hs:∀ s∈[tTear,a,w1],s.length≤100000) (hk:numOf a=some k) (ht:told.length≤300000000) :
  Calls Tryz.prog 24 #[.pointer (some ⟨b,0,none⟩),v] w fun e w'=>e=.returned (.bool false)∧Quiet w w'∧Holds w' (kst b bg told*(gld bg g*(wds v [tTear,a,w1]*(lay w0*R)))):=by
 obtain ⟨gl,cl,rfl,c1,c2⟩:=wds_cons h.three
 simp only [List.length_cons,List.length_nil,Nat.zero_add] at c1 h ⊢
 obtain ⟨wa,hwa,H0,Q0⟩:∃ wa,w.alloc (.cells #[zI zi 0,zI zi 0,zI zi 0,zI zi 0,zI zi 0,zI zi 0,zI zi 0,zI zi 0,zI zi 0] 86)=wa∧Hid (Holds wa (bl w.heap.size 86 (zstep 0)*(kst b bg told*(gld bg g*(wds (.slice (some ⟨gl,0,none⟩) 3 cl) [tTear,a,w1]*(lay w0*R))))))∧Hid (Quiet w wa):=
  ⟨_,rfl,zH (h.boxB (ty:=86) (cs:=zstep 0) rfl),zH ((Quiet.refl w).alloc _)⟩
 have HS:=zH hs;have HG:=zH hg
 have HK:=zH (show numsOf [a]=some [k] by simp [numsOf,hk])
 clear h hs hg hk
 obtain ⟨qx,hqx⟩:∃ qx,w.heap.size=qx:=⟨_,rfl⟩
 rw [hqx] at H0
 obtain ⟨T,hT⟩:∃ T,strOf tTear=T:=⟨_,rfl⟩
 have hb0:(T.toList==[116,101,97,114])=true:=by rw [←hT];exact bytes_yes tTear
 have HT:=zH hT;clear hT
 go_enter Tryz.func24,Tryz.ntmps24
 go_wp2_with (first|(refine wpList_built rfl 86 _ rfl (zstep 2) (by kernel_rfl) ?_)|(refine wpList_store_whole rfl 86 _ _ rfl qx (zstep 2) rfl rfl H0.out.bl rfl (by kernel_rfl) (by simp [Ones,zstep,Value.oneCell']) ?_;intro wb h1' h2' h3';have HB:=zH (H0.out.grown h2' h1');have QB:=zH (Q0.out.trans (Quiet.grown h2'));have l0:=wds_cells HB.out.four 0 _ rfl;rw [HT.out] at l0;clear h1' h2' h3'))
 have hv1:RowAt wb (.slice (some ⟨gl,1,none⟩) 1 (cl-1)) 1 (svls [a]):=wds_part HB.out.four rfl (q:=1) (m:=1) (d:=cl-1) (by omega) (by omega)
 refine (numbers_sl _ [a] [k] _ (HB.out.eq (by ac_rfl:_=lay w0*(bl qx 86 (zstep 2)*(kst b bg told*(gld bg g*(wds (.slice (some ⟨gl,0,none⟩) 3 cl) [tTear,a,w1]*R)))))) hv1 (by simp) (fun s hs=>HS.out s (by simp at hs;simp [hs])) HK.out).mono ?_
 rintro e w3 ⟨v3,rfl,q3,h3⟩
 obtain ⟨gk,ck,rfl,e1,e2⟩:=inum_cons h3
 replace h3:Holds w3 (inum (.slice (some ⟨gk,0,none⟩) 1 ck) [k]*(lay w0*(bl qx 86 (zstep 2)*(kst b bg told*(gld bg g*(wds (.slice (some ⟨gl,0,none⟩) 3 cl) [tTear,a,w1]*R)))))):=h3
 have HK3:=zH (h3.drew.eq (by ac_rfl:_=bl qx 86 (zstep 2)*(inum (.slice (some ⟨gk,0,none⟩) 1 ck) [k]*(kst b bg told*(gld bg g*(wds (.slice (some ⟨gl,0,none⟩) 3 cl) [tTear,a,w1]*(lay w0*R)))))))
 have QK3:=zH ((QB.out.trans q3).drew)
 have y0:=HK3.out.bl.cell 0 _ rfl;have f0:=HK3.out.bl.free 0;have y2:=HK3.out.bl.cell 2 _ rfl;have f2:=HK3.out.bl.free 2
 have y2':w3.cell? ⟨qx,2,none⟩=some (zI zi 0):=y2
 have f2':w3.frozen? ⟨qx,2,none⟩=false:=f2
 clear h3 q3 hv1
 go_wp2_with fail
 have HK4:=zH (HK3.out.setB 0 (zI zi 3))
 have HK5:=zH (HK4.out.setB 2 (zI zi k))
 refine wp_region_lex (fun W=>W.cell? ⟨gk,0,none⟩=some (zI zi k)) [4,6] (by kernel_rfl) (by kernel_rfl) (inum_cell HK3.out.two 0 _ rfl) ?_
 repeat (first|(refine LexL.none (by rfl) ?_;(try simp only [zP,zA,zB,zC]))|(refine LexL.still (v:=?_) (by rfl) ?_ ?_;rotate_left;(focus (intro W hW;(try dsimp only at hW);go_simp;(try (with_reducible rfl));done));(try simp only [zP,zA,zB,zC])))
 refine LexL.store (w1:=w3.drew.setCell ⟨qx,0,none⟩ (zI zi 3)) (by rfl) (by decide) (by go_simp) (inum_cell HK4.out.two 0 _ rfl) ?_
 try simp only [zP,zA,zB,zC]
 repeat (first|(refine LexL.none (by rfl) ?_;(try simp only [zP,zA,zB,zC]))|(refine LexL.still (v:=?_) (by rfl) ?_ ?_;rotate_left;(focus (intro W hW;(try dsimp only at hW);go_simp;(try (with_reducible rfl));done));(try simp only [zP,zA,zB,zC])))
 refine LexL.store (w1:=(w3.drew.setCell ⟨qx,0,none⟩ (zI zi 3)).setCell ⟨qx,2,none⟩ (zI zi k)) (by rfl) (by decide) (by go_simp) (inum_cell HK5.out.two 0 _ rfl) ?_
 try simp only [zP,zA,zB,zC]
 refine LexL.done ?_
 obtain ⟨wb2,hwb2⟩:∃ W,(w3.drew.setCell ⟨qx,0,none⟩ (zI zi 3)).setCell ⟨qx,2,none⟩ (zI zi k)=W:=⟨_,rfl⟩
 have hb2:=HK5.out
 have hq2:=((QK3.out.setCell ⟨qx,0,none⟩ (zI zi 3)).setCell ⟨qx,2,none⟩ (zI zi k))
 rw [hwb2] at hb2 hq2 ⊢
 have HB:=zH (show Holds wb2 (bl qx 86 [zI zi 3,zI zi 0,zI zi k,zI zi 0,zI zi 0,zI zi 0,zI zi 0,zI zi 0,zI zi 0]*(kst b bg told*(gld bg g*(wds (.slice (some ⟨gl,0,none⟩) 3 cl) [tTear,a,w1]*(lay w0*R))))) from hb2.two.right)
 have QB:=zH hq2
 clear hb2 hq2 hwb2 HK3 HK4 HK5 QK3 y0 f0 y2 f2 y2' f2' l0
 by_cases hcl:cl=2
 ·subst hcl
  go_wp2
  go_ret
  exact ⟨rfl,QB.out,HB.out.right⟩
 ·go_wp2
  go_ret
  exact ⟨rfl,QB.out,HB.out.right⟩
theorem node_yes (b bg:Nat) (told:List UInt8) (g:Gld) (v:Value) (L:List (List UInt8)) (x:Stp) (t:Bool) (w:World) {w0:World} {R:HP}
  (h:Holds w (kst b bg told*(gld bg g*(wds v L*(lay w0*R))))) (hg:g.Good) (hl:L.length≤10000) (hs:∀ s∈L,s.length≤100000) (hq:nodeReq L=some (x,t)) (ht:told.length≤300000000) :
  Calls Tryz.prog 24 #[.pointer (some ⟨b,0,none⟩),v] w fun e w'=>e=.returned (.bool true)∧Quiet w w'∧Holds w' (kst b bg (told++line (ansTxt (g.step x).2 t))*(gld bg (g.step x).1*(wds v L*(lay w0*R)))):=by
 unfold nodeReq at hq
 split at hq
 ·cases hq
 ·rename_i w1 r
  split at hq
  ·rename_i e
   subst e
   split at hq
   ·cases hq
   ·rename_i a q
    split at hq
    ·cases hq
    ·rename_i k hk
     split at hq
     ·cases hq
     ·rename_i w1 u
      split at hq
      ·rename_i n m hm
       cases ho:orderOf w1 m with
       | none=>rw [ho] at hq;cases hq
       | some o=>
        rw [ho] at hq
        simp only [Option.map_some,Option.some.injEq,Prod.mk.injEq] at hq
        obtain ⟨rfl,rfl⟩:=hq
        exact node_tear b bg told g v a w1 u k n m o w h hg (by simp at hl;omega) hs hk hm ho ht
      ·cases hq
  ·rename_i e
   split at hq
   ·rename_i n m hm
    cases ho:orderOf w1 m with
    | none=>rw [ho] at hq;cases hq
    | some o=>
     rw [ho] at hq
     simp only [Option.map_some,Option.some.injEq,Prod.mk.injEq] at hq
     obtain ⟨rfl,rfl⟩:=hq
     exact node_order b bg told g v w1 r n m o w h hg (by simp at hl;omega) hs e hm ho ht
   ·cases hq
theorem node_no (b bg:Nat) (told:List UInt8) (g:Gld) (v:Value) (L:List (List UInt8)) (w:World) {w0:World} {R:HP}
  (h:Holds w (kst b bg told*(gld bg g*(wds v L*(lay w0*R))))) (hg:g.Good) (h0:L≠[]) (hl:L.length≤10000) (hs:∀ s∈L,s.length≤100000) (hne:∀ s∈L,s≠[]) (hq:nodeReq L=none) (ht:told.length≤300000000) :
  Calls Tryz.prog 24 #[.pointer (some ⟨b,0,none⟩),v] w fun e w'=>e=.returned (.bool false)∧Quiet w w'∧Holds w' (kst b bg told*(gld bg g*(wds v L*(lay w0*R)))):=by
 have ofnil:∀ {r:List (List UInt8)},numsOf r=some []→r=[]:=fun h=>List.length_eq_zero_iff.1 (by rw [←numsOf_len h];rfl)
 unfold nodeReq at hq
 split at hq
 ·exact absurd rfl h0
 ·rename_i w1 r
  split at hq
  ·rename_i e
   subst e
   split at hq
   ·exact node_t1 b bg told g v w h hg hs ht
   ·rename_i a q
    split at hq
    ·rename_i hk
     exact node_t2 b bg told g v a q w h hg hs hk ht
    ·rename_i k hk
     split at hq
     ·exact node_t3 b bg told g v a k w h hg hs hk ht
     ·rename_i w1 u
      split at hq
      ·rename_i n m hm
       cases ho:orderOf w1 m with
       | none=>exact node_t6 b bg told g v a w1 u k n m w h hg (by simp at hl;omega) hs hk hm (hne _ (by simp)) ho ht
       | some o=>rw [ho] at hq;cases hq
      ·rename_i hm
       cases hu:numsOf u with
       | none=>
        cases u with
        | nil=>cases hu
        | cons r0 r=>exact node_t5 b bg told g v a w1 r0 r k w h hg (by simp at hl;omega) hs hk hu ht
       | some l=>
        cases l with
        | nil=>obtain rfl:=ofnil hu;exact node_t4 b bg told g v a w1 k w h hg hs hk ht
        | cons n m=>exact absurd hu (hm n m)
  ·rename_i e
   split at hq
   ·rename_i n m hm
    cases ho:orderOf w1 m with
    | none=>exact node_n3 b bg told g v w1 r n m w h hg (by simp at hl;omega) hs e hm (hne _ (by simp)) ho ht
    | some o=>rw [ho] at hq;cases hq
   ·rename_i hm
    cases hu:numsOf r with
    | none=>
     cases r with
     | nil=>cases hu
     | cons r0 r=>exact node_n2 b bg told g v w1 r0 r w h hg (by simp at hl;omega) hs e hu ht
    | some l=>
     cases l with
     | nil=>obtain rfl:=ofnil hu;exact node_n1 b bg told g v w1 w h hg hs e ht
     | cons n m=>exact absurd hu (hm n m)
end Go.Proofs.YtfihmpkkpgmdhaaGreatDoor
