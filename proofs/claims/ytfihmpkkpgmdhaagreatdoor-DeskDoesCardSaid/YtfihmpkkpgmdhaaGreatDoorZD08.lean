/-
  What the proof of DeskDoes leans on: definitions, laws, contracts of functions. No condition besides those that each theorem names.
-/
import Derived.Test.YtfihmpkkpgmdhaaGreatDoorZD06
set_option maxRecDepth 100000
set_option maxHeartbeats 16000000
set_option linter.unusedVariables false
set_option linter.unusedSimpArgs false
set_option linter.unnecessarySimpa false
namespace Go.Proofs.YtfihmpkkpgmdhaaGreatDoor
open Go.RowKit
open List renaming setIfInBounds_toArray → zA, set_cons_zero → zB, set_cons_succ → zC
open Go.Act renaming put → zP
open Go.Lib renaming hid → zH
open Go.Value renaming int → zI
open Go.IntKind renaming i64 → zi
theorem ofault_any (c n j t k m:Int) (w:World) :
  Calls Tryz.prog 116 #[.agg #[zI zi c,zI zi n,zI zi j,zI zi t,zI zi k,zI zi m]] w fun e w'=>
   e=.returned (zI zi (chk ⟨c,n,j,t,k,m⟩))∧Below w.heap.size w w':=by
 by_cases hc:1≤c∧c≤5
 ·obtain rfl|rfl|rfl|rfl|rfl:c=1∨c=2∨c=3∨c=4∨c=5:=by omega
  all_goals
   clear hc
   go_enter Tryz.func116,Tryz.ntmps116
   go_wp2
  all_goals
   go_ret
   refine ⟨ret_i64 ?_,(Below.refl _ _).alloc (Nat.le_refl _) _⟩
   try simp only [Bool.not_eq_eq_eq_not,Bool.not_true,Bool.not_false,bne_iff_ne,ne_eq,bne_eq_false_iff_eq] at *
   unfold chk
   dsimp only
   repeat' split
   all_goals omega
 ·have h1:(c==1)=false:=by simp;omega
  have h2:(c==2)=false:=by simp;omega
  have h3:(c==3)=false:=by simp;omega
  have h4:(c==4)=false:=by simp;omega
  have h5:(c==5)=false:=by simp;omega
  have HC:=zH hc;clear hc
  go_enter Tryz.func116,Tryz.ntmps116
  go_wp2
  go_ret
  exact ⟨ret_i64 (by rw [chk,if_pos HC.out]),(Below.refl _ _).alloc (Nat.le_refl _) _⟩
theorem rfault_any (p c n j t k m:Int) (w:World) :
  Calls Tryz.prog 119 #[.agg #[zI zi p,zI zi c,zI zi n,zI zi j,zI zi t,zI zi k,zI zi m]] w fun e w'=>e=.returned (zI zi (chkR ⟨p,⟨c,n,j,t,k,m⟩⟩))∧Below w.heap.size w w':=by
 by_cases h1:p<1
 ·rw [show chkR ⟨p,⟨c,n,j,t,k,m⟩⟩=3 by simp [chkR,h1]]
  go_enter Tryz.func119,Tryz.ntmps119
  go_wp2_with fail
  go_ret
  exact ⟨rfl,(Below.refl _ _).alloc (Nat.le_refl _) _⟩
 ·by_cases h2:100<p
  ·rw [show chkR ⟨p,⟨c,n,j,t,k,m⟩⟩=3 by simp [chkR,h2]]
   go_enter Tryz.func119,Tryz.ntmps119
   go_wp2_with fail
   go_ret
   exact ⟨rfl,(Below.refl _ _).alloc (Nat.le_refl _) _⟩
  ·rw [show chkR ⟨p,⟨c,n,j,t,k,m⟩⟩=chk ⟨c,n,j,t,k,m⟩ by simp [chkR];omega]
   go_enter Tryz.func119,Tryz.ntmps119
   go_wp2_with fail
   refine (ofault_any c n j t k m _).mono ?_
   rintro e w1 ⟨rfl,hb⟩
   go_wp2
   go_ret
   exact ⟨rfl,((Below.refl w.heap.size w).alloc (Nat.le_refl _) _).trans (hb.mono (by simp))⟩
theorem wm8 (y:Nat) (h:y<256):IntKind.i64.wrap (256*(y:Int))=256*(y:Int):=by
 rw [IntKind.wrap_i64];omega
theorem wa8 (y z:Nat) (h:y<256) (hz:z<256):IntKind.i64.wrap (256*(y:Int)+(z:Int))=256*(y:Int)+(z:Int):=by
 rw [IntKind.wrap_i64];omega
theorem recof_any (v:Value) (l:List UInt8) (w:World) (h:BytesAt w v l):Calls Tryz.prog 96 #[v] w (DecPost w (decB l)):=by
 have HB:=zH h
 obtain ⟨a,c,rfl,h1,h2,h3⟩:=h.get
 have H3:=zH h3;clear h3 h
 by_cases h9:l.length<9
 ·rw [show decB l=(Rec.zero,7) by simp [decB,h9]]
  go_enter Tryz.func96,Tryz.ntmps96
  go_wp2
  refine bodyPost_ret (v:=.tuple #[.agg #[zI zi 0,zI zi 0,zI zi 0,zI zi 0,zI zi 0,zI zi 0,zI zi 0],zI zi 7]) (by simp [results,Tryz.results96,go_sem]) rfl ⟨rfl,?_⟩
  repeat refine Below.setCell ?_ (Nat.le_refl _) _
  exact (Below.refl _ _).alloc (Nat.le_refl _) _
 ·obtain ⟨g,off,rfl,hc⟩:=H3.out (by intro e;subst e;simp at h9)
  have c8:=hc 8 (by omega)
  have h10:9≤l.length:=by omega
  have h11:8≤c:=by omega
  have h12:(8:Int)≤(c:Int):=by omega
  have h20:0<l.length:=by omega
  have h21:(1:Int)<(l.length:Int):=by omega
  have h22:(2:Int)<(l.length:Int):=by omega
  have h23:(3:Int)<(l.length:Int):=by omega
  have h24:(4:Int)<(l.length:Int):=by omega
  have h25:(5:Int)<(l.length:Int):=by omega
  have h26:(6:Int)<(l.length:Int):=by omega
  have h27:(7:Int)<(l.length:Int):=by omega
  have h28:(8:Int)<(l.length:Int):=by omega
  have HT:=zH (HB.out.take (q:=8) (by omega))
  have hg:=block_lt_of_cell c8
  by_cases hs:csum (l.take 8)=l.getD 8 0
  ·have hs1:(((csum (l.take 8)).toNat:Int) != ((l.getD 8 0).toNat:Int))=false:=by rw [hs];simp
   have d0:=hc 0 (by omega)
   have d1:=hc 1 (by omega)
   have d2:=hc 2 (by omega)
   have d3:=hc 3 (by omega)
   have d4:=hc 4 (by omega)
   have d5:=hc 5 (by omega)
   have d6:=hc 6 (by omega)
   have d7:=hc 7 (by omega)
   rw [Nat.add_zero] at d0
   clear hc
   have dx:decB l=(if chkR ⟨((l.getD 0 0).toNat:Int),⟨((l.getD 1 0).toNat:Int),256*((l.getD 2 0).toNat:Int)+((l.getD 3 0).toNat:Int),((l.getD 4 0).toNat:Int),((l.getD 5 0).toNat:Int),((l.getD 6 0).toNat:Int),((l.getD 7 0).toNat:Int)⟩⟩≠0 then (Rec.zero,chkR ⟨((l.getD 0 0).toNat:Int),⟨((l.getD 1 0).toNat:Int),256*((l.getD 2 0).toNat:Int)+((l.getD 3 0).toNat:Int),((l.getD 4 0).toNat:Int),((l.getD 5 0).toNat:Int),((l.getD 6 0).toNat:Int),((l.getD 7 0).toNat:Int)⟩⟩) else (⟨((l.getD 0 0).toNat:Int),⟨((l.getD 1 0).toNat:Int),256*((l.getD 2 0).toNat:Int)+((l.getD 3 0).toNat:Int),((l.getD 4 0).toNat:Int),((l.getD 5 0).toNat:Int),((l.getD 6 0).toNat:Int),((l.getD 7 0).toNat:Int)⟩⟩,0)):=by
    rw [decB,if_neg h9,if_neg (by rw [hs];simp)]
    rfl
   rw [dx];clear dx hs
   have e0:=w8 _ (l.getD 0 0).toNat_lt
   have e1:=w8 _ (l.getD 1 0).toNat_lt
   have e2:=w8 _ (l.getD 2 0).toNat_lt
   have e3:=w8 _ (l.getD 3 0).toNat_lt
   have b2:(l.getD 2 0).toNat<256:=(l.getD 2 0).toNat_lt
   have b3:(l.getD 3 0).toNat<256:=(l.getD 3 0).toNat_lt
   have e23:=wm8 _ b2
   have e24:=wa8 _ _ b2 b3
   have e4:=w8 _ (l.getD 4 0).toNat_lt
   have e5:=w8 _ (l.getD 5 0).toNat_lt
   have e6:=w8 _ (l.getD 6 0).toNat_lt
   have e7:=w8 _ (l.getD 7 0).toNat_lt
   generalize (l.getD 0 0).toNat=y0 at *
   generalize (l.getD 1 0).toNat=y1 at *
   generalize (l.getD 2 0).toNat=y2 at *
   generalize (l.getD 3 0).toNat=y3 at *
   generalize (l.getD 4 0).toNat=y4 at *
   generalize (l.getD 5 0).toNat=y5 at *
   generalize (l.getD 6 0).toNat=y6 at *
   generalize (l.getD 7 0).toNat=y7 at *
   generalize (l.getD 8 0).toNat=y8 at *
   generalize hcs:(csum (l.take 8)).toNat=cs at *
   have HCS:=zH hcs;clear hcs
   by_cases hk:chkR ⟨(y0:Int),⟨(y1:Int),256*(y2:Int)+(y3:Int),(y4:Int),(y5:Int),(y6:Int),(y7:Int)⟩⟩=0
   ·rw [if_neg (by rw [hk];simp)]
    have HK:=zH hk;clear hk
    go_enter Tryz.func96,Tryz.ntmps96
    go_wp2
    refine wp_region_lex (fun W=>W.cell? ⟨g,off+8,none⟩=some (.int .u8 (y8:Int))) [2] (by kernel_rfl) (by kernel_rfl) (by go_simp) ?_
    repeat (first|(refine LexL.none (by rfl) ?_;(try simp only [zP,zA,zB,zC]))|(refine LexL.still (v:=?_) (by rfl) ?_ ?_;rotate_left;(focus (intro W hW;(try dsimp only at hW);go_simp;(try (with_reducible rfl));done));(try simp only [zP,zA,zB,zC])))
    refine LexL.call (f:=118) (args:=#[.slice (some ⟨g,off,none⟩) 8 c]) (w1:=(w.alloc (.cells #[zI zi 0,zI zi 0,zI zi 0,zI zi 0,zI zi 0,zI zi 0,zI zi 0] 103)).drew) (by rfl) (by decide) (by go_simp) ?_
    refine (rsum_any _ (l.take 8) _ (HT.out.upd (Upd.drew (Upd.alloc (F:=fun _=>False) (Upd.refl _ _) _)) (fun _ _ h=>h)) (by simp;omega)).mono ?_
    rw [HCS.out]
    rintro e w1 ⟨rfl,rfl⟩
    refine ⟨_,rfl,by go_simp,?_⟩
    try simp only [zP,zA,zB,zC]
    repeat (first|(refine LexL.none (by rfl) ?_;(try simp only [zP,zA,zB,zC]))|(refine LexL.still (v:=?_) (by rfl) ?_ ?_;rotate_left;(focus (intro W hW;(try dsimp only at hW);go_simp;(try (with_reducible rfl));done));(try simp only [zP,zA,zB,zC])))
    refine LexL.done ?_
    go_wp2
    refine wp_region_lex (fun W=>W.cell? ⟨g,off+1,none⟩=some (.int .u8 (y1:Int))∧W.cell? ⟨g,off+2,none⟩=some (.int .u8 (y2:Int))∧W.cell? ⟨g,off+3,none⟩=some (.int .u8 (y3:Int))∧W.cell? ⟨g,off+4,none⟩=some (.int .u8 (y4:Int))∧W.cell? ⟨g,off+5,none⟩=some (.int .u8 (y5:Int))∧W.cell? ⟨g,off+6,none⟩=some (.int .u8 (y6:Int))∧W.cell? ⟨g,off+7,none⟩=some (.int .u8 (y7:Int))) [32] (by kernel_rfl) (by kernel_rfl) (by refine ⟨?_,?_,?_,?_,?_,?_,?_⟩<;>go_simp) ?_
    repeat (first|(refine LexL.none (by rfl) ?_;(try simp only [zP,zA,zB,zC]))|(refine LexL.still (v:=?_) (by rfl) ?_ ?_;rotate_left;(focus (intro W hW;(try dsimp only at hW);go_simp;(try (with_reducible rfl));done));(try simp only [zP,zA,zB,zC])))
    refine LexL.store (by rfl) (by decide) (by go_simp;rfl) (by refine ⟨?_,?_,?_,?_,?_,?_,?_⟩<;>go_simp) ?_
    try simp only [zP,zA,zB,zC]
    refine LexL.done ?_
    go_wp2_with fail
    refine (rfault_any _ _ _ _ _ _ _ _).mono ?_
    rw [HK.out]
    rintro e w2 ⟨rfl,hb⟩
    have hb0:=(((Below.refl w.heap.size w).alloc (Nat.le_refl _) (.cells #[zI zi 0,zI zi 0,zI zi 0,zI zi 0,zI zi 0,zI zi 0,zI zi 0] 103)).alloc (by simp) (.cells #[zI zi y0,zI zi y1,zI zi (256*y2+y3),zI zi y4,zI zi y5,zI zi y6,zI zi y7] 103)).drew.drew
    have hx:=((BlockAt.new w 103 [zI zi 0,zI zi 0,zI zi 0,zI zi 0,zI zi 0,zI zi 0,zI zi 0]).alloc (.cells #[zI zi y0,zI zi y1,zI zi (256*y2+y3),zI zi y4,zI zi y5,zI zi y6,zI zi y7] 103)).drew.drew.below hb (by simp;omega)
    have hy:=(BlockAt.new (w.alloc (.cells #[zI zi 0,zI zi 0,zI zi 0,zI zi 0,zI zi 0,zI zi 0,zI zi 0] 103)) 103 [zI zi y0,zI zi y1,zI zi (256*y2+y3),zI zi y4,zI zi y5,zI zi y6,zI zi y7]).drew.drew.below hb (by simp)
    rw [World.size_alloc] at hy
    have hb2:=hb0.trans (hb.mono (by simp;omega))
    have k1:=hx.cells
    have f1:=hx.frees
    have l1:=hx.lt
    have k2:=hy.cells
    have f2:=hy.frees
    have l2:=hy.lt
    have HB2:=zH hb2
    clear hb hb0 hb2 hx hy
    go_wp2
    refine bodyPost_ret (v:=.tuple #[.agg #[zI zi y0,zI zi y1,zI zi (256*y2+y3),zI zi y4,zI zi y5,zI zi y6,zI zi y7],zI zi 0]) (by simp [results,Tryz.results96,go_sem,k1,k2,l1,l2,f1,f2]) rfl ⟨rfl,?_⟩
    iterate 7 refine Below.setCell ?_ (by exact Nat.le_refl _) _
    exact HB2.out
   ·rw [if_pos hk]
    obtain ⟨C,hC⟩:∃ C,chkR ⟨(y0:Int),⟨(y1:Int),256*(y2:Int)+(y3:Int),(y4:Int),(y5:Int),(y6:Int),(y7:Int)⟩⟩=C:=⟨_,rfl⟩
    rw [hC] at hk
    have hk1:(C != 0)=true:=by simpa using hk
    rw [hC]
    have HK:=zH hC;clear hC hk
    go_enter Tryz.func96,Tryz.ntmps96
    go_wp2
    refine wp_region_lex (fun W=>W.cell? ⟨g,off+8,none⟩=some (.int .u8 (y8:Int))) [2] (by kernel_rfl) (by kernel_rfl) (by go_simp) ?_
    repeat (first|(refine LexL.none (by rfl) ?_;(try simp only [zP,zA,zB,zC]))|(refine LexL.still (v:=?_) (by rfl) ?_ ?_;rotate_left;(focus (intro W hW;(try dsimp only at hW);go_simp;(try (with_reducible rfl));done));(try simp only [zP,zA,zB,zC])))
    refine LexL.call (f:=118) (args:=#[.slice (some ⟨g,off,none⟩) 8 c]) (w1:=(w.alloc (.cells #[zI zi 0,zI zi 0,zI zi 0,zI zi 0,zI zi 0,zI zi 0,zI zi 0] 103)).drew) (by rfl) (by decide) (by go_simp) ?_
    refine (rsum_any _ (l.take 8) _ (HT.out.upd (Upd.drew (Upd.alloc (F:=fun _=>False) (Upd.refl _ _) _)) (fun _ _ h=>h)) (by simp;omega)).mono ?_
    rw [HCS.out]
    rintro e w1 ⟨rfl,rfl⟩
    refine ⟨_,rfl,by go_simp,?_⟩
    try simp only [zP,zA,zB,zC]
    repeat (first|(refine LexL.none (by rfl) ?_;(try simp only [zP,zA,zB,zC]))|(refine LexL.still (v:=?_) (by rfl) ?_ ?_;rotate_left;(focus (intro W hW;(try dsimp only at hW);go_simp;(try (with_reducible rfl));done));(try simp only [zP,zA,zB,zC])))
    refine LexL.done ?_
    go_wp2
    refine wp_region_lex (fun W=>W.cell? ⟨g,off+1,none⟩=some (.int .u8 (y1:Int))∧W.cell? ⟨g,off+2,none⟩=some (.int .u8 (y2:Int))∧W.cell? ⟨g,off+3,none⟩=some (.int .u8 (y3:Int))∧W.cell? ⟨g,off+4,none⟩=some (.int .u8 (y4:Int))∧W.cell? ⟨g,off+5,none⟩=some (.int .u8 (y5:Int))∧W.cell? ⟨g,off+6,none⟩=some (.int .u8 (y6:Int))∧W.cell? ⟨g,off+7,none⟩=some (.int .u8 (y7:Int))) [32] (by kernel_rfl) (by kernel_rfl) (by refine ⟨?_,?_,?_,?_,?_,?_,?_⟩<;>go_simp) ?_
    repeat (first|(refine LexL.none (by rfl) ?_;(try simp only [zP,zA,zB,zC]))|(refine LexL.still (v:=?_) (by rfl) ?_ ?_;rotate_left;(focus (intro W hW;(try dsimp only at hW);go_simp;(try (with_reducible rfl));done));(try simp only [zP,zA,zB,zC])))
    refine LexL.store (by rfl) (by decide) (by go_simp;rfl) (by refine ⟨?_,?_,?_,?_,?_,?_,?_⟩<;>go_simp) ?_
    try simp only [zP,zA,zB,zC]
    refine LexL.done ?_
    go_wp2_with fail
    refine (rfault_any _ _ _ _ _ _ _ _).mono ?_
    rw [HK.out]
    rintro e w2 ⟨rfl,hb⟩
    have hb0:=(((Below.refl w.heap.size w).alloc (Nat.le_refl _) (.cells #[zI zi 0,zI zi 0,zI zi 0,zI zi 0,zI zi 0,zI zi 0,zI zi 0] 103)).alloc (by simp) (.cells #[zI zi y0,zI zi y1,zI zi (256*y2+y3),zI zi y4,zI zi y5,zI zi y6,zI zi y7] 103)).drew.drew
    have hx:=((BlockAt.new w 103 [zI zi 0,zI zi 0,zI zi 0,zI zi 0,zI zi 0,zI zi 0,zI zi 0]).alloc (.cells #[zI zi y0,zI zi y1,zI zi (256*y2+y3),zI zi y4,zI zi y5,zI zi y6,zI zi y7] 103)).drew.drew.below hb (by simp;omega)
    have hy:=(BlockAt.new (w.alloc (.cells #[zI zi 0,zI zi 0,zI zi 0,zI zi 0,zI zi 0,zI zi 0,zI zi 0] 103)) 103 [zI zi y0,zI zi y1,zI zi (256*y2+y3),zI zi y4,zI zi y5,zI zi y6,zI zi y7]).drew.drew.below hb (by simp)
    rw [World.size_alloc] at hy
    have hb2:=hb0.trans (hb.mono (by simp;omega))
    have k1:=hx.cells
    have f1:=hx.frees
    have l1:=hx.lt
    have k2:=hy.cells
    have f2:=hy.frees
    have l2:=hy.lt
    have HB2:=zH hb2
    clear hb hb0 hb2 hx hy
    go_wp2
    refine bodyPost_ret (v:=.tuple #[.agg #[zI zi 0,zI zi 0,zI zi 0,zI zi 0,zI zi 0,zI zi 0,zI zi 0],zI zi C]) (by simp [results,Tryz.results96,go_sem,k1,k2,l1,l2,f1,f2]) rfl ⟨rfl,?_⟩
    iterate 7 refine Below.setCell ?_ (by exact Nat.le_refl _) _
    exact HB2.out
  ·have hs2:(((csum (l.take 8)).toNat:Int) != ((l.getD 8 0).toNat:Int))=true:=u8_ne _ _ hs
   rw [show decB l=(Rec.zero,2) by rw [decB,if_neg h9,if_pos hs]]
   generalize (l.getD 8 0).toNat=y8 at *
   generalize hcs:(csum (l.take 8)).toNat=cs at *
   have HCS:=zH hcs;clear hcs hc
   go_enter Tryz.func96,Tryz.ntmps96
   go_wp2
   refine wp_region_lex (fun W=>W.cell? ⟨g,off+8,none⟩=some (.int .u8 (y8:Int))) [2] (by kernel_rfl) (by kernel_rfl) (by go_simp) ?_
   repeat (first|(refine LexL.none (by rfl) ?_;(try simp only [zP,zA,zB,zC]))|(refine LexL.still (v:=?_) (by rfl) ?_ ?_;rotate_left;(focus (intro W hW;(try dsimp only at hW);go_simp;(try (with_reducible rfl));done));(try simp only [zP,zA,zB,zC])))
   refine LexL.call (f:=118) (args:=#[.slice (some ⟨g,off,none⟩) 8 c]) (w1:=(w.alloc (.cells #[zI zi 0,zI zi 0,zI zi 0,zI zi 0,zI zi 0,zI zi 0,zI zi 0] 103)).drew) (by rfl) (by decide) (by go_simp) ?_
   refine (rsum_any _ (l.take 8) _ (HT.out.upd (Upd.drew (Upd.alloc (F:=fun _=>False) (Upd.refl _ _) _)) (fun _ _ h=>h)) (by simp;omega)).mono ?_
   rw [HCS.out]
   rintro e w1 ⟨rfl,rfl⟩
   refine ⟨_,rfl,by go_simp,?_⟩
   try simp only [zP,zA,zB,zC]
   repeat (first|(refine LexL.none (by rfl) ?_;(try simp only [zP,zA,zB,zC]))|(refine LexL.still (v:=?_) (by rfl) ?_ ?_;rotate_left;(focus (intro W hW;(try dsimp only at hW);go_simp;(try (with_reducible rfl));done));(try simp only [zP,zA,zB,zC])))
   refine LexL.done ?_
   go_wp2
   refine bodyPost_ret (v:=.tuple #[.agg #[zI zi 0,zI zi 0,zI zi 0,zI zi 0,zI zi 0,zI zi 0,zI zi 0],zI zi 2]) (by simp [results,Tryz.results96,go_sem]) rfl ⟨rfl,?_⟩
   exact ((Below.refl _ _).alloc (Nat.le_refl _) _).drew
end Go.Proofs.YtfihmpkkpgmdhaaGreatDoor
