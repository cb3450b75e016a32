/-
  What the proof of DeskDoes leans on: definitions, laws, contracts of functions. No condition besides those that each theorem names.
-/
import Derived.Test.YtfihmpkkpgmdhaaGreatDoorZD22
import Derived.Test.YtfihmpkkpgmdhaaGreatDoorZD21
import Derived.Test.YtfihmpkkpgmdhaaGreatDoorZD24
set_option maxRecDepth 100000
set_option maxHeartbeats 16000000
set_option linter.unusedVariables false
set_option linter.unusedSimpArgs false
set_option linter.unnecessarySimpa false
namespace Go.Proofs.YtfihmpkkpgmdhaaGreatDoor
open Go.RowKit
open List renaming setIfInBounds_toArray → zA, set_cons_zero → zB, set_cons_succ → zC
open Go.Act renaming put → zP
open Go.Lib renaming hid → zH
open Go.Value renaming int → zI
open Go.IntKind renaming i64 → zi
def fz1 (i:Nat) (ty:TypeId) (cs:List Value):Nat→Option (TypeId×List Value):=fun k=>if k=i then some (ty,cs) else Option.none
theorem fz1_fl {i:Nat} {ty:TypeId} {cs:List Value}:∀ k,fz1 i ty cs k≠Option.none→k∈[i]:=fun k h=>by
 unfold fz1 at h
 split at h
 ·subst_vars;simp
 ·exact absurd rfl h
theorem fz1_no {i:Nat} {ty:TypeId} {cs:List Value}:∀ k∈[i],fz1 i ty cs k≠Option.none:=fun k h=>by
 obtain rfl:=List.mem_singleton.1 h
 unfold fz1
 rw [if_pos rfl]
 exact fun h=>by cases h
theorem fz1_ok {P:Program} {ops:Array Oper} {i:Nat} {o1:Oper} {ty:TypeId} {cs:List Value} (h1:ops[i]? = some o1) (r1:MadeBy P o1 ty cs):FzOk P ops (fz1 i ty cs):=fun k t c h o ho=>by
 unfold fz1 at h
 split at h
 ·subst_vars
  simp only [Option.some.injEq,Prod.mk.injEq] at h
  obtain ⟨rfl,rfl⟩:=h
  rw [h1] at ho
  obtain rfl:=Option.some.inj ho
  exact r1
 ·cases h
theorem results_mix {P:Program} {fn:Func} {tmps:Array Value} {w:World} {a b:Nat} {t:TypeId} {ad:Addr} {v x:Value} (hr:fn.results=#[.cell a t,.tmp b]) (ha:tmps.getD a undef=.pointer (some ad)) (hb:tmps.getD b undef=x) (hl:(loadVar t ad).run P w=.ok v w):(results fn tmps).run P w=.ok (.tuple #[v,x]) w:=by
 have h1:(asAddr (.pointer (some ad))).run P w=.ok ad w:=rfl
 have ha':tmps[a]?.getD undef=.pointer (some ad):=by simpa using ha
 have hb':tmps[b]?.getD undef=x:=by simpa using hb
 unfold results
 rw [hr]
 simp [Sem.run_bind,ha',hb',h1,hl]
theorem index_sl (v:Value) (l:List (List UInt8)) (x:List UInt8) (w:World) (hv:RowAt w v l.length (svls l)) (h0:l.length≠0) (hn:l.length≤1000) :
  Calls Tryz.prog 46 #[v,.string (strOf x)] w fun e w'=>e=.returned (zI zi (Lib.idxOfS (l.map strOf) (strOf x)))∧w'=w:=by
 obtain ⟨g,off,c,rfl,h1,h2,h3⟩:=hv.get h0
 have hl:(l.map strOf).length=l.length:=List.length_map ..
 have:=Tryz.slices_Index_string g off l.length c (l.map strOf) (strOf x) w (by omega) (by omega) (fun j hj=>by
  obtain ⟨y,hy⟩:∃ y,l[j]? = some y:=⟨_,List.getElem?_eq_getElem (by omega)⟩
  have e:(l.map strOf).getD j ByteArray.empty=strOf y:=by simp [List.getD,hy]
  rw [e]
  exact h3 j _ (svls_get hy))
 rw [←hl,List.take_length,hl] at this
 exact this
theorem clone_sl (v:Value) (l:List Int) (w:World) (hv:RowAt w v l.length (ivs l)) (h0:l.length≠0) (hn:l.length≤1000) {R:HP} (h:Holds w R) :
  Calls Tryz.prog 72 #[v] w (PostX w R (fun v=>v) fun v=>rw_ 3 1 v l.length (ivs l)):=by
 obtain ⟨g,off,c,rfl,h1,h2,h3⟩:=hv.get h0
 refine (Tryz.slices_Clone_int g off l.length c l w (Nat.le_refl _) (by omega) (fun j hj=>?_)).mono ?_
 ·obtain ⟨y,hy⟩:∃ y,l[j]? = some y:=⟨_,List.getElem?_eq_getElem (by omega)⟩
  have e:l.getD j 0=y:=by simp [List.getD,hy]
  rw [e]
  exact h3 j _ (by simp [ivs,hy])
 ·rintro e w' ⟨v',rfl,ho,hne,hb⟩
  rw [List.take_length] at ho
  rcases ho.2 with ⟨rfl,hn0⟩|⟨g',cap,cur,rfl,hge,hg',hnc,hcm,hcs,ht⟩
  ·exact absurd hn0 h0
  ·refine ⟨_,rfl,Quiet.below hb,?_⟩
   refine h.new hb.block (B:=rw_ 3 1 (.slice (some ⟨g',0,none⟩) l.length cap) l.length (ivs l)) (F:=fun k=>Value.ownBlock (.slice (some ⟨g',0,none⟩) l.length cap)=some k) ⟨⟨by simp [ivs],ivs_ones l,.inr ⟨g',cap,cur.toList,rfl,by simpa [BlockAt] using hg',hnc,by simpa using Nat.le_of_eq hcs.symm,hcm,by simpa [ivs] using ht⟩⟩,rfl⟩ ?_
   intro k hk
   simp [Value.ownBlock] at hk
   omega
def kwords:List (List UInt8):=[[],tAdd,tTake,tRenew,tDone,tDrop]
theorem kidx_add:Lib.idxOfS (kwords.map strOf) (strOf tAdd)=1:=by decide +kernel
theorem kidx_take:Lib.idxOfS (kwords.map strOf) (strOf tTake)=2:=by decide +kernel
theorem kidx_renew:Lib.idxOfS (kwords.map strOf) (strOf tRenew)=3:=by decide +kernel
theorem kidx_done:Lib.idxOfS (kwords.map strOf) (strOf tDone)=4:=by decide +kernel
theorem kidx_drop:Lib.idxOfS (kwords.map strOf) (strOf tDrop)=5:=by decide +kernel
theorem idx_miss {l:List (List UInt8)} {x:List UInt8} (h:x∉l):Lib.idxOfS (l.map strOf) (strOf x) = -1:=by
 have hx:strOf x∉l.map strOf:=fun hm=>by
  obtain ⟨y,hy,e⟩:=List.mem_map.1 hm
  exact h (strOf_inj e▸hy)
 have h1:=fun hn=>hx ((Lib.idxOfS_nonneg_iff _ _).1 hn)
 have h2:∀ (zs:List ByteArray) (y:ByteArray) (i:Nat),y∉zs→Lib.idxFromS zs y i = -1:=by
  intro zs y
  induction zs with
  | nil=>intro i _;rfl
  | cons z zs ih=>
   intro i hn
   unfold Lib.idxFromS
   rw [if_neg (fun e=>hn (by rw [e];exact List.mem_cons_self ..)),ih _ (fun hm=>hn (List.mem_cons_of_mem _ hm))]
 exact h2 _ _ 0 hx
theorem cell_alloc_keep {w:World} {a:Addr} {v:Value} (h:w.cell? a=some v) (o:Obj):(w.alloc o).cell? a=some v:=by
 rw [World.cell?_of_block (Below.heap_alloc w o a.block (block_lt_of_cell h))]
 exact h
theorem row_cells {w:World} {g o c n:Nat} {xs:List Value} {A:HP} (h:Holds w (rw_ 3 1 (.slice (some ⟨g,o,none⟩) n c) n xs*A)) (hn:n≠0) (j:Nat) (u:Value) (hj:xs[j]? = some u):w.cell? ⟨g,o+j,none⟩=some u:=by
 obtain ⟨g',o',c',e,-,-,hc⟩:=h.row.get hn
 simp only [Value.slice.injEq,Option.some.injEq,Addr.mk.injEq,and_true] at e
 obtain ⟨⟨rfl,rfl⟩,-,rfl⟩:=e
 exact hc j u hj
def zord:List Value:=[zI zi 0,zI zi 0,zI zi 0,zI zi 0,zI zi 0,zI zi 0]
def oval (o:Ord):Value:=.agg #[zI zi o.kind,zI zi o.now,zI zi o.job,zI zi o.tr,zI zi o.wk,zI zi o.tm]
theorem kwords_row {w:World} {g:Nat} (hg:w.heap.size=g) (cs:Array Value) (hc:cs=(svls kwords).toArray) (ty:TypeId):RowAt (w.alloc (.cells cs ty)) (.slice (some ⟨g,0,none⟩) 6 6) kwords.length (svls kwords):=svls_row (l:=kwords) hg (by decide) cs hc ty
theorem order_add (v:Value) (a:Int) (w:World) (hv:RowAt w v 1 (ivs [a])) {R:HP} (h:Holds w R) :
  Calls Tryz.prog 42 #[.string (strOf tAdd),v] w (PostN w R (.tuple #[.agg #[zI zi 1,zI zi 0,zI zi a,zI zi 0,zI zi 0,zI zi 0],.bool true])):=by
 obtain ⟨va,vc,rfl,-,-⟩:=hv.shape
 have HV:=zH hv
 obtain ⟨i0,hi,hz0,hz1,hz2⟩:=info_parts Tryz.infoI64
 have HI:=zH hi;have HZ0:=zH hz0;have HZ1:=zH hz1;have HZ2:=zH hz2
 clear hi hz0 hz1 hz2
 have HX:=zH kidx_add
 obtain ⟨w1,hw1,H1,Q1⟩:∃ w1,w.alloc (.cells #[zI zi 0,zI zi 0,zI zi 0,zI zi 0,zI zi 0,zI zi 0] 84)=w1∧Hid (Holds w1 (bl w.heap.size 84 zord*R))∧Hid (Quiet w w1):=
  ⟨_,rfl,zH (h.boxB (ty:=84) (cs:=zord) rfl),zH ((Quiet.refl w).alloc _)⟩
 have hv1:RowAt w1 (.slice va 1 vc) 1 (ivs [a]):=hw1▸hv.alloc _
 have HV1:=zH hv1
 clear hv hv1 h
 obtain ⟨q0,hq0⟩:∃ q0,w.heap.size=q0:=⟨_,rfl⟩
 rw [hq0] at H1
 go_enter Tryz.func42,Tryz.ntmps42
 go_wp2_with fail
 clear hw1 hq0
 refine (index_sl _ kwords tAdd _ (kwords_row rfl _ rfl _) (by decide) (by decide)).mono ?_
 rw [HX.out]
 rintro e w2 ⟨rfl,rfl⟩
 have H2:=zH ((H1.out.alloc (.cells (svls kwords).toArray 9)).alloc (.cells #[zI zi 0,zI zi 1,zI zi 2,zI zi 4,zI zi 3,zI zi 3] 3))
 go_wp2_with fail
 refine (clone_sl _ [a] _ ((HV1.out.alloc _).alloc _) (by simp) (by simp) H2.out).mono ?_
 rintro e w3 ⟨v3,rfl,q3,h3⟩
 obtain ⟨g3,o3,c3,rfl,-,-,-⟩:=h3.row.get (by simp)
 have H3:=zH (h3.alloc (.cells #[zI zi 0,zI zi 0,zI zi 0] 3))
 have Q3:=zH ((Q1.out.trans (((Quiet.refl _).alloc _).alloc _)).trans q3)
 clear h3 q3
 go_wp2_with (at_builtin;refine wpList_append_sl (n:=1) (m:=3) rfl _ _ 70 rfl 3 i0 _ 1 8 Tryz.underlying70 HI.out HZ0.out HZ1.out HZ2.out rfl (by decide) rfl rfl H3.out (ivs_row (l:=[0,0,0]) rfl (by simp) _ rfl _) rfl (ivs_ones [0,0,0]) (by omega) (by omega) ?_;intro v4 w4 h4 q4;obtain ⟨g4,o4,c4,rfl,-,-,hc⟩:=h4.row.get (by simp);have H4:=zH h4;have Q4:=zH (Q3.out.trans (((Quiet.refl _).alloc _).trans q4));have y0:=hc 0 _ rfl;have y1:=hc 1 _ rfl;have y2:=hc 2 _ rfl;have y3:=hc 3 _ rfl;clear hc h4 q4)
 have z0:w4.drew.cell? ⟨g4,o4,none⟩=some (zI zi a):=y0
 have z1:w4.drew.cell? ⟨g4,o4+1,none⟩=some (zI zi 0):=y1
 have z2:w4.drew.cell? ⟨g4,o4+2,none⟩=some (zI zi 0):=y2
 have z3:w4.drew.cell? ⟨g4,o4+3,none⟩=some (zI zi 0):=y3
 refine wp_region_lexH (fun W=>W.cell? ⟨g4,o4,none⟩=some (zI zi a)∧W.cell? ⟨g4,o4+1,none⟩=some (zI zi 0)∧W.cell? ⟨g4,o4+2,none⟩=some (zI zi 0)∧W.cell? ⟨g4,o4+3,none⟩=some (zI zi 0)) [15] [14] (fz1 14 84 zord) _ (by kernel_rfl) (by kernel_rfl) (by kernel_rfl) fz1_fl fz1_no (fz1_ok rfl ⟨rfl,fun a w=>by kernel_rfl⟩) (fun W o h=>⟨cell_alloc_keep h.1 o,cell_alloc_keep h.2.1 o,cell_alloc_keep h.2.2.1 o,cell_alloc_keep h.2.2.2 o⟩) ⟨z0,z1,z2,z3⟩ H4.out.drew ?_
 clear y0 y1 y2 y3 z0 z1 z2 z3
 repeat (first|(refine LexHL.still (v:=?_) (by rfl) (by rfl) ?_ ?_;rotate_left;(focus (intro W hW;(try dsimp only at hW);go_simp;(try (with_reducible rfl));done));(try simp only [zP,zA,zB,zC])))
 refine LexHL.made rfl ?_
 intro q1 hlv
 clear hlv
 try simp only [zP,zA,zB,zC]
 refine LexHL.storeB (q:=q1) (t:=84) (cs:=zord) (B:=rw_ 3 1 (.slice (some ⟨g4,o4,none⟩) (1+3) c4) (1+3) (ivs [a]++ivs [0,0,0])*(bl q0 84 zord*R)) 84 _ _ rfl [zI zi 1,zI zi 0,zI zi a,zI zi 0,zI zi 0,zI zi 0] rfl rfl rfl (by kernel_rfl) (by simp [Ones,Value.oneCell']) rfl rfl (by decide) rfl (fun W R2 h=>⟨by simpa using row_cells h.left.right (by simp) 0 _ rfl,row_cells h.left.right (by simp) 1 _ rfl,row_cells h.left.right (by simp) 2 _ rfl,row_cells h.left.right (by simp) 3 _ rfl⟩) ?_
 try simp only [zP,zA,zB,zC]
 refine LexHL.done ?_
 intro W hS hA hq
 have HA:=zH hA;have QA:=zH (Q4.out.drew.trans hq)
 obtain ⟨z0,z1,z2,z3⟩:=hS
 clear hA hq
 go_wp2_with (first|(refine wpList_store_whole rfl 84 _ _ rfl q1 [zI zi 1,zI zi 0,zI zi a,zI zi 0,zI zi 0,zI zi 0] rfl rfl HA.out.bl rfl (by kernel_rfl) (by simp [Ones,Value.oneCell']) ?_;intro w5 h1' h2' h3';have HB:=zH (HA.out.grown h2' h1');have QB:=zH (QA.out.trans (Quiet.grown h2'));clear h1' h2' h3')|(refine wpList_load_whole rfl 84 _ rfl q1 rfl [zI zi 1,zI zi 0,zI zi a,zI zi 0,zI zi 0,zI zi 0] HB.out.bl Tryz.underlying84 rfl (by kernel_rfl) ?_)|(refine wpList_store_whole rfl 84 _ _ rfl q0 [zI zi 1,zI zi 0,zI zi a,zI zi 0,zI zi 0,zI zi 0] rfl rfl HB.out.three.bl rfl (by kernel_rfl) (by simp [Ones,Value.oneCell']) ?_;intro w6 h1' h2' h3';have HE:=zH (HB.out.three.grown h2' h1');have QE:=zH (QB.out.trans (Quiet.grown h2'));clear h1' h2' h3'))
 have hl:=run_load_part (P:=Tryz.prog) (off:=0) (ty:=84) (vs:=[zI zi 1,zI zi 0,zI zi a,zI zi 0,zI zi 0,zI zi 0]) HE.out.bl rfl Tryz.underlying84 rfl (by kernel_rfl)
 exact bodyPost_ret (results_mix rfl rfl rfl hl) rfl ⟨rfl,QE.out,HE.out.right.right.right⟩
theorem order_take (v:Value) (a b:Int) (w:World) (hv:RowAt w v 2 (ivs [a,b])) {R:HP} (h:Holds w R) :
  Calls Tryz.prog 42 #[.string (strOf tTake),v] w (PostN w R (.tuple #[.agg #[zI zi 2,zI zi 0,zI zi 0,zI zi 0,zI zi a,zI zi b],.bool true])):=by
 obtain ⟨va,vc,rfl,-,-⟩:=hv.shape
 have HV:=zH hv
 obtain ⟨i0,hi,hz0,hz1,hz2⟩:=info_parts Tryz.infoI64
 have HI:=zH hi;have HZ0:=zH hz0;have HZ1:=zH hz1;have HZ2:=zH hz2
 clear hi hz0 hz1 hz2
 have HX:=zH kidx_take
 obtain ⟨w1,hw1,H1,Q1⟩:∃ w1,w.alloc (.cells #[zI zi 0,zI zi 0,zI zi 0,zI zi 0,zI zi 0,zI zi 0] 84)=w1∧Hid (Holds w1 (bl w.heap.size 84 zord*R))∧Hid (Quiet w w1):=
  ⟨_,rfl,zH (h.boxB (ty:=84) (cs:=zord) rfl),zH ((Quiet.refl w).alloc _)⟩
 have hv1:RowAt w1 (.slice va 2 vc) 2 (ivs [a,b]):=hw1▸hv.alloc _
 have HV1:=zH hv1
 clear hv hv1 h
 obtain ⟨q0,hq0⟩:∃ q0,w.heap.size=q0:=⟨_,rfl⟩
 rw [hq0] at H1
 go_enter Tryz.func42,Tryz.ntmps42
 go_wp2_with fail
 clear hw1 hq0
 refine (index_sl _ kwords tTake _ (kwords_row rfl _ rfl _) (by decide) (by decide)).mono ?_
 rw [HX.out]
 rintro e w2 ⟨rfl,rfl⟩
 have H2:=zH ((H1.out.alloc (.cells (svls kwords).toArray 9)).alloc (.cells #[zI zi 0,zI zi 1,zI zi 2,zI zi 4,zI zi 3,zI zi 3] 3))
 go_wp2_with fail
 refine (clone_sl _ [a,b] _ ((HV1.out.alloc _).alloc _) (by simp) (by simp) H2.out).mono ?_
 rintro e w3 ⟨v3,rfl,q3,h3⟩
 obtain ⟨g3,o3,c3,rfl,-,-,-⟩:=h3.row.get (by simp)
 have H3:=zH (h3.alloc (.cells #[zI zi 0,zI zi 0,zI zi 0] 3))
 have Q3:=zH ((Q1.out.trans (((Quiet.refl _).alloc _).alloc _)).trans q3)
 clear h3 q3
 go_wp2_with (at_builtin;refine wpList_append_sl (n:=2) (m:=3) rfl _ _ 70 rfl 3 i0 _ 1 8 Tryz.underlying70 HI.out HZ0.out HZ1.out HZ2.out rfl (by decide) rfl rfl H3.out (ivs_row (l:=[0,0,0]) rfl (by simp) _ rfl _) rfl (ivs_ones [0,0,0]) (by omega) (by omega) ?_;intro v4 w4 h4 q4;obtain ⟨g4,o4,c4,rfl,-,-,hc⟩:=h4.row.get (by simp);have H4:=zH h4;have Q4:=zH (Q3.out.trans (((Quiet.refl _).alloc _).trans q4));have y0:=hc 0 _ rfl;have y1:=hc 1 _ rfl;have y2:=hc 2 _ rfl;have y3:=hc 3 _ rfl;clear hc h4 q4)
 have z0:w4.drew.cell? ⟨g4,o4,none⟩=some (zI zi a):=y0
 have z1:w4.drew.cell? ⟨g4,o4+1,none⟩=some (zI zi b):=y1
 have z2:w4.drew.cell? ⟨g4,o4+2,none⟩=some (zI zi 0):=y2
 have z3:w4.drew.cell? ⟨g4,o4+3,none⟩=some (zI zi 0):=y3
 refine wp_region_lexH (fun W=>W.cell? ⟨g4,o4,none⟩=some (zI zi a)∧W.cell? ⟨g4,o4+1,none⟩=some (zI zi b)∧W.cell? ⟨g4,o4+2,none⟩=some (zI zi 0)∧W.cell? ⟨g4,o4+3,none⟩=some (zI zi 0)) [15] [14] (fz1 14 84 zord) _ (by kernel_rfl) (by kernel_rfl) (by kernel_rfl) fz1_fl fz1_no (fz1_ok rfl ⟨rfl,fun a w=>by kernel_rfl⟩) (fun W o h=>⟨cell_alloc_keep h.1 o,cell_alloc_keep h.2.1 o,cell_alloc_keep h.2.2.1 o,cell_alloc_keep h.2.2.2 o⟩) ⟨z0,z1,z2,z3⟩ H4.out.drew ?_
 clear y0 y1 y2 y3 z0 z1 z2 z3
 repeat (first|(refine LexHL.still (v:=?_) (by rfl) (by rfl) ?_ ?_;rotate_left;(focus (intro W hW;(try dsimp only at hW);go_simp;(try (with_reducible rfl));done));(try simp only [zP,zA,zB,zC])))
 refine LexHL.made rfl ?_
 intro q1 hlv
 clear hlv
 try simp only [zP,zA,zB,zC]
 refine LexHL.storeB (q:=q1) (t:=84) (cs:=zord) (B:=rw_ 3 1 (.slice (some ⟨g4,o4,none⟩) (2+3) c4) (2+3) (ivs [a,b]++ivs [0,0,0])*(bl q0 84 zord*R)) 84 _ _ rfl [zI zi 2,zI zi 0,zI zi a,zI zi b,zI zi 0,zI zi 0] rfl rfl rfl (by kernel_rfl) (by simp [Ones,Value.oneCell']) rfl rfl (by decide) rfl (fun W R2 h=>⟨by simpa using row_cells h.left.right (by simp) 0 _ rfl,row_cells h.left.right (by simp) 1 _ rfl,row_cells h.left.right (by simp) 2 _ rfl,row_cells h.left.right (by simp) 3 _ rfl⟩) ?_
 try simp only [zP,zA,zB,zC]
 refine LexHL.done ?_
 intro W hS hA hq
 have HA:=zH hA;have QA:=zH (Q4.out.drew.trans hq)
 obtain ⟨z0,z1,z2,z3⟩:=hS
 clear hA hq
 go_wp2_with fail
 refine wp_region_lex (fun W=>W.cell? ⟨g4,o4,none⟩=some (zI zi a)∧W.cell? ⟨g4,o4+1,none⟩=some (zI zi b)) [8] (by kernel_rfl) (by kernel_rfl) ⟨z0,z1⟩ ?_
 clear z0 z1 z2 z3
 repeat (first|(refine LexL.none (by rfl) ?_;(try simp only [zP,zA,zB,zC]))|(refine LexL.still (v:=?_) (by rfl) ?_ ?_;rotate_left;(focus (intro W hW;(try dsimp only at hW);go_simp;(try (with_reducible rfl));done));(try simp only [zP,zA,zB,zC])))
 refine LexL.storeB (q:=q1) (t:=84) (cs:=[zI zi 2,zI zi 0,zI zi a,zI zi b,zI zi 0,zI zi 0]) 84 _ _ rfl [zI zi 2,zI zi 0,zI zi 0,zI zi 0,zI zi a,zI zi b] rfl rfl rfl (by kernel_rfl) (by simp [Ones,Value.oneCell']) (by rfl) (by decide) HA.out.drew ?_
 intro w5 h5 q5
 have HB:=zH h5;have QB:=zH (QA.out.drew.trans q5)
 refine ⟨⟨by simpa using row_cells h5.right (by simp) 0 _ rfl,row_cells h5.right (by simp) 1 _ rfl⟩,?_⟩
 clear h5 q5
 try simp only [zP,zA,zB,zC]
 refine LexL.done ?_
 go_wp2_with (first|(refine wpList_load_whole rfl 84 _ rfl q1 rfl [zI zi 2,zI zi 0,zI zi 0,zI zi 0,zI zi a,zI zi b] HB.out.bl Tryz.underlying84 rfl (by kernel_rfl) ?_)|(refine wpList_store_whole rfl 84 _ _ rfl q0 [zI zi 2,zI zi 0,zI zi 0,zI zi 0,zI zi a,zI zi b] rfl rfl HB.out.three.bl rfl (by kernel_rfl) (by simp [Ones,Value.oneCell']) ?_;intro w6 h1' h2' h3';have HE:=zH (HB.out.three.grown h2' h1');have QE:=zH (QB.out.trans (Quiet.grown h2'));clear h1' h2' h3'))
 have hl:=run_load_part (P:=Tryz.prog) (off:=0) (ty:=84) (vs:=[zI zi 2,zI zi 0,zI zi 0,zI zi 0,zI zi a,zI zi b]) HE.out.bl rfl Tryz.underlying84 rfl (by kernel_rfl)
 exact bodyPost_ret (results_mix rfl rfl rfl hl) rfl ⟨rfl,QE.out,HE.out.right.right.right⟩
theorem order_renew (v:Value) (a b c d:Int) (w:World) (hv:RowAt w v 4 (ivs [a,b,c,d])) {R:HP} (h:Holds w R) :
  Calls Tryz.prog 42 #[.string (strOf tRenew),v] w (PostN w R (.tuple #[.agg #[zI zi 3,zI zi 0,zI zi a,zI zi b,zI zi c,zI zi d],.bool true])):=by
 obtain ⟨va,vc,rfl,-,-⟩:=hv.shape
 have HV:=zH hv
 obtain ⟨i0,hi,hz0,hz1,hz2⟩:=info_parts Tryz.infoI64
 have HI:=zH hi;have HZ0:=zH hz0;have HZ1:=zH hz1;have HZ2:=zH hz2
 clear hi hz0 hz1 hz2
 have HX:=zH kidx_renew
 obtain ⟨w1,hw1,H1,Q1⟩:∃ w1,w.alloc (.cells #[zI zi 0,zI zi 0,zI zi 0,zI zi 0,zI zi 0,zI zi 0] 84)=w1∧Hid (Holds w1 (bl w.heap.size 84 zord*R))∧Hid (Quiet w w1):=
  ⟨_,rfl,zH (h.boxB (ty:=84) (cs:=zord) rfl),zH ((Quiet.refl w).alloc _)⟩
 have hv1:RowAt w1 (.slice va 4 vc) 4 (ivs [a,b,c,d]):=hw1▸hv.alloc _
 have HV1:=zH hv1
 clear hv hv1 h
 obtain ⟨q0,hq0⟩:∃ q0,w.heap.size=q0:=⟨_,rfl⟩
 rw [hq0] at H1
 go_enter Tryz.func42,Tryz.ntmps42
 go_wp2_with fail
 clear hw1 hq0
 refine (index_sl _ kwords tRenew _ (kwords_row rfl _ rfl _) (by decide) (by decide)).mono ?_
 rw [HX.out]
 rintro e w2 ⟨rfl,rfl⟩
 have H2:=zH ((H1.out.alloc (.cells (svls kwords).toArray 9)).alloc (.cells #[zI zi 0,zI zi 1,zI zi 2,zI zi 4,zI zi 3,zI zi 3] 3))
 go_wp2_with fail
 refine (clone_sl _ [a,b,c,d] _ ((HV1.out.alloc _).alloc _) (by simp) (by simp) H2.out).mono ?_
 rintro e w3 ⟨v3,rfl,q3,h3⟩
 obtain ⟨g3,o3,c3,rfl,-,-,-⟩:=h3.row.get (by simp)
 have H3:=zH (h3.alloc (.cells #[zI zi 0,zI zi 0,zI zi 0] 3))
 have Q3:=zH ((Q1.out.trans (((Quiet.refl _).alloc _).alloc _)).trans q3)
 clear h3 q3
 go_wp2_with (at_builtin;refine wpList_append_sl (n:=4) (m:=3) rfl _ _ 70 rfl 3 i0 _ 1 8 Tryz.underlying70 HI.out HZ0.out HZ1.out HZ2.out rfl (by decide) rfl rfl H3.out (ivs_row (l:=[0,0,0]) rfl (by simp) _ rfl _) rfl (ivs_ones [0,0,0]) (by omega) (by omega) ?_;intro v4 w4 h4 q4;obtain ⟨g4,o4,c4,rfl,-,-,hc⟩:=h4.row.get (by simp);have H4:=zH h4;have Q4:=zH (Q3.out.trans (((Quiet.refl _).alloc _).trans q4));have y0:=hc 0 _ rfl;have y1:=hc 1 _ rfl;have y2:=hc 2 _ rfl;have y3:=hc 3 _ rfl;clear hc h4 q4)
 have z0:w4.drew.cell? ⟨g4,o4,none⟩=some (zI zi a):=y0
 have z1:w4.drew.cell? ⟨g4,o4+1,none⟩=some (zI zi b):=y1
 have z2:w4.drew.cell? ⟨g4,o4+2,none⟩=some (zI zi c):=y2
 have z3:w4.drew.cell? ⟨g4,o4+3,none⟩=some (zI zi d):=y3
 refine wp_region_lexH (fun W=>W.cell? ⟨g4,o4,none⟩=some (zI zi a)∧W.cell? ⟨g4,o4+1,none⟩=some (zI zi b)∧W.cell? ⟨g4,o4+2,none⟩=some (zI zi c)∧W.cell? ⟨g4,o4+3,none⟩=some (zI zi d)) [15] [14] (fz1 14 84 zord) _ (by kernel_rfl) (by kernel_rfl) (by kernel_rfl) fz1_fl fz1_no (fz1_ok rfl ⟨rfl,fun a w=>by kernel_rfl⟩) (fun W o h=>⟨cell_alloc_keep h.1 o,cell_alloc_keep h.2.1 o,cell_alloc_keep h.2.2.1 o,cell_alloc_keep h.2.2.2 o⟩) ⟨z0,z1,z2,z3⟩ H4.out.drew ?_
 clear y0 y1 y2 y3 z0 z1 z2 z3
 repeat (first|(refine LexHL.still (v:=?_) (by rfl) (by rfl) ?_ ?_;rotate_left;(focus (intro W hW;(try dsimp only at hW);go_simp;(try (with_reducible rfl));done));(try simp only [zP,zA,zB,zC])))
 refine LexHL.made rfl ?_
 intro q1 hlv
 clear hlv
 try simp only [zP,zA,zB,zC]
 refine LexHL.storeB (q:=q1) (t:=84) (cs:=zord) (B:=rw_ 3 1 (.slice (some ⟨g4,o4,none⟩) (4+3) c4) (4+3) (ivs [a,b,c,d]++ivs [0,0,0])*(bl q0 84 zord*R)) 84 _ _ rfl [zI zi 3,zI zi 0,zI zi a,zI zi b,zI zi c,zI zi d] rfl rfl rfl (by kernel_rfl) (by simp [Ones,Value.oneCell']) rfl rfl (by decide) rfl (fun W R2 h=>⟨by simpa using row_cells h.left.right (by simp) 0 _ rfl,row_cells h.left.right (by simp) 1 _ rfl,row_cells h.left.right (by simp) 2 _ rfl,row_cells h.left.right (by simp) 3 _ rfl⟩) ?_
 try simp only [zP,zA,zB,zC]
 refine LexHL.done ?_
 intro W hS hA hq
 have HA:=zH hA;have QA:=zH (Q4.out.drew.trans hq)
 obtain ⟨z0,z1,z2,z3⟩:=hS
 clear hA hq
 have HB:=HA;have QB:=QA
 go_wp2_with (first|(refine wpList_load_whole rfl 84 _ rfl q1 rfl [zI zi 3,zI zi 0,zI zi a,zI zi b,zI zi c,zI zi d] HB.out.bl Tryz.underlying84 rfl (by kernel_rfl) ?_)|(refine wpList_store_whole rfl 84 _ _ rfl q0 [zI zi 3,zI zi 0,zI zi a,zI zi b,zI zi c,zI zi d] rfl rfl HB.out.three.bl rfl (by kernel_rfl) (by simp [Ones,Value.oneCell']) ?_;intro w6 h1' h2' h3';have HE:=zH (HB.out.three.grown h2' h1');have QE:=zH (QB.out.trans (Quiet.grown h2'));clear h1' h2' h3'))
 have hl:=run_load_part (P:=Tryz.prog) (off:=0) (ty:=84) (vs:=[zI zi 3,zI zi 0,zI zi a,zI zi b,zI zi c,zI zi d]) HE.out.bl rfl Tryz.underlying84 rfl (by kernel_rfl)
 exact bodyPost_ret (results_mix rfl rfl rfl hl) rfl ⟨rfl,QE.out,HE.out.right.right.right⟩
theorem order_done (v:Value) (a b c:Int) (w:World) (hv:RowAt w v 3 (ivs [a,b,c])) {R:HP} (h:Holds w R) :
  Calls Tryz.prog 42 #[.string (strOf tDone),v] w (PostN w R (.tuple #[.agg #[zI zi 4,zI zi 0,zI zi a,zI zi b,zI zi c,zI zi 0],.bool true])):=by
 obtain ⟨va,vc,rfl,-,-⟩:=hv.shape
 have HV:=zH hv
 obtain ⟨i0,hi,hz0,hz1,hz2⟩:=info_parts Tryz.infoI64
 have HI:=zH hi;have HZ0:=zH hz0;have HZ1:=zH hz1;have HZ2:=zH hz2
 clear hi hz0 hz1 hz2
 have HX:=zH kidx_done
 obtain ⟨w1,hw1,H1,Q1⟩:∃ w1,w.alloc (.cells #[zI zi 0,zI zi 0,zI zi 0,zI zi 0,zI zi 0,zI zi 0] 84)=w1∧Hid (Holds w1 (bl w.heap.size 84 zord*R))∧Hid (Quiet w w1):=
  ⟨_,rfl,zH (h.boxB (ty:=84) (cs:=zord) rfl),zH ((Quiet.refl w).alloc _)⟩
 have hv1:RowAt w1 (.slice va 3 vc) 3 (ivs [a,b,c]):=hw1▸hv.alloc _
 have HV1:=zH hv1
 clear hv hv1 h
 obtain ⟨q0,hq0⟩:∃ q0,w.heap.size=q0:=⟨_,rfl⟩
 rw [hq0] at H1
 go_enter Tryz.func42,Tryz.ntmps42
 go_wp2_with fail
 clear hw1 hq0
 refine (index_sl _ kwords tDone _ (kwords_row rfl _ rfl _) (by decide) (by decide)).mono ?_
 rw [HX.out]
 rintro e w2 ⟨rfl,rfl⟩
 have H2:=zH ((H1.out.alloc (.cells (svls kwords).toArray 9)).alloc (.cells #[zI zi 0,zI zi 1,zI zi 2,zI zi 4,zI zi 3,zI zi 3] 3))
 go_wp2_with fail
 refine (clone_sl _ [a,b,c] _ ((HV1.out.alloc _).alloc _) (by simp) (by simp) H2.out).mono ?_
 rintro e w3 ⟨v3,rfl,q3,h3⟩
 obtain ⟨g3,o3,c3,rfl,-,-,-⟩:=h3.row.get (by simp)
 have H3:=zH (h3.alloc (.cells #[zI zi 0,zI zi 0,zI zi 0] 3))
 have Q3:=zH ((Q1.out.trans (((Quiet.refl _).alloc _).alloc _)).trans q3)
 clear h3 q3
 go_wp2_with (at_builtin;refine wpList_append_sl (n:=3) (m:=3) rfl _ _ 70 rfl 3 i0 _ 1 8 Tryz.underlying70 HI.out HZ0.out HZ1.out HZ2.out rfl (by decide) rfl rfl H3.out (ivs_row (l:=[0,0,0]) rfl (by simp) _ rfl _) rfl (ivs_ones [0,0,0]) (by omega) (by omega) ?_;intro v4 w4 h4 q4;obtain ⟨g4,o4,c4,rfl,-,-,hc⟩:=h4.row.get (by simp);have H4:=zH h4;have Q4:=zH (Q3.out.trans (((Quiet.refl _).alloc _).trans q4));have y0:=hc 0 _ rfl;have y1:=hc 1 _ rfl;have y2:=hc 2 _ rfl;have y3:=hc 3 _ rfl;clear hc h4 q4)
 have z0:w4.drew.cell? ⟨g4,o4,none⟩=some (zI zi a):=y0
 have z1:w4.drew.cell? ⟨g4,o4+1,none⟩=some (zI zi b):=y1
 have z2:w4.drew.cell? ⟨g4,o4+2,none⟩=some (zI zi c):=y2
 have z3:w4.drew.cell? ⟨g4,o4+3,none⟩=some (zI zi 0):=y3
 refine wp_region_lexH (fun W=>W.cell? ⟨g4,o4,none⟩=some (zI zi a)∧W.cell? ⟨g4,o4+1,none⟩=some (zI zi b)∧W.cell? ⟨g4,o4+2,none⟩=some (zI zi c)∧W.cell? ⟨g4,o4+3,none⟩=some (zI zi 0)) [15] [14] (fz1 14 84 zord) _ (by kernel_rfl) (by kernel_rfl) (by kernel_rfl) fz1_fl fz1_no (fz1_ok rfl ⟨rfl,fun a w=>by kernel_rfl⟩) (fun W o h=>⟨cell_alloc_keep h.1 o,cell_alloc_keep h.2.1 o,cell_alloc_keep h.2.2.1 o,cell_alloc_keep h.2.2.2 o⟩) ⟨z0,z1,z2,z3⟩ H4.out.drew ?_
 clear y0 y1 y2 y3 z0 z1 z2 z3
 repeat (first|(refine LexHL.still (v:=?_) (by rfl) (by rfl) ?_ ?_;rotate_left;(focus (intro W hW;(try dsimp only at hW);go_simp;(try (with_reducible rfl));done));(try simp only [zP,zA,zB,zC])))
 refine LexHL.made rfl ?_
 intro q1 hlv
 clear hlv
 try simp only [zP,zA,zB,zC]
 refine LexHL.storeB (q:=q1) (t:=84) (cs:=zord) (B:=rw_ 3 1 (.slice (some ⟨g4,o4,none⟩) (3+3) c4) (3+3) (ivs [a,b,c]++ivs [0,0,0])*(bl q0 84 zord*R)) 84 _ _ rfl [zI zi 4,zI zi 0,zI zi a,zI zi b,zI zi c,zI zi 0] rfl rfl rfl (by kernel_rfl) (by simp [Ones,Value.oneCell']) rfl rfl (by decide) rfl (fun W R2 h=>⟨by simpa using row_cells h.left.right (by simp) 0 _ rfl,row_cells h.left.right (by simp) 1 _ rfl,row_cells h.left.right (by simp) 2 _ rfl,row_cells h.left.right (by simp) 3 _ rfl⟩) ?_
 try simp only [zP,zA,zB,zC]
 refine LexHL.done ?_
 intro W hS hA hq
 have HA:=zH hA;have QA:=zH (Q4.out.drew.trans hq)
 obtain ⟨z0,z1,z2,z3⟩:=hS
 clear hA hq
 have cq:=HA.out.bl.cells;have fq:=HA.out.bl.frees
 have HB:=zH (HA.out.setB 5 (zI zi 0));have QB:=zH (QA.out.setCell ⟨q1,5,none⟩ (zI zi 0))
 go_wp2_with (first|(refine wpList_load_whole rfl 84 _ rfl q1 rfl [zI zi 4,zI zi 0,zI zi a,zI zi b,zI zi c,zI zi 0] HB.out.bl Tryz.underlying84 rfl (by kernel_rfl) ?_)|(refine wpList_store_whole rfl 84 _ _ rfl q0 [zI zi 4,zI zi 0,zI zi a,zI zi b,zI zi c,zI zi 0] rfl rfl HB.out.three.bl rfl (by kernel_rfl) (by simp [Ones,Value.oneCell']) ?_;intro w6 h1' h2' h3';have HE:=zH (HB.out.three.grown h2' h1');have QE:=zH (QB.out.trans (Quiet.grown h2'));clear h1' h2' h3'))
 have hl:=run_load_part (P:=Tryz.prog) (off:=0) (ty:=84) (vs:=[zI zi 4,zI zi 0,zI zi a,zI zi b,zI zi c,zI zi 0]) HE.out.bl rfl Tryz.underlying84 rfl (by kernel_rfl)
 exact bodyPost_ret (results_mix rfl rfl rfl hl) rfl ⟨rfl,QE.out,HE.out.right.right.right⟩
theorem order_drop (v:Value) (a b c:Int) (w:World) (hv:RowAt w v 3 (ivs [a,b,c])) {R:HP} (h:Holds w R) :
  Calls Tryz.prog 42 #[.string (strOf tDrop),v] w (PostN w R (.tuple #[.agg #[zI zi 5,zI zi 0,zI zi a,zI zi b,zI zi c,zI zi 0],.bool true])):=by
 obtain ⟨va,vc,rfl,-,-⟩:=hv.shape
 have HV:=zH hv
 obtain ⟨i0,hi,hz0,hz1,hz2⟩:=info_parts Tryz.infoI64
 have HI:=zH hi;have HZ0:=zH hz0;have HZ1:=zH hz1;have HZ2:=zH hz2
 clear hi hz0 hz1 hz2
 have HX:=zH kidx_drop
 obtain ⟨w1,hw1,H1,Q1⟩:∃ w1,w.alloc (.cells #[zI zi 0,zI zi 0,zI zi 0,zI zi 0,zI zi 0,zI zi 0] 84)=w1∧Hid (Holds w1 (bl w.heap.size 84 zord*R))∧Hid (Quiet w w1):=
  ⟨_,rfl,zH (h.boxB (ty:=84) (cs:=zord) rfl),zH ((Quiet.refl w).alloc _)⟩
 have hv1:RowAt w1 (.slice va 3 vc) 3 (ivs [a,b,c]):=hw1▸hv.alloc _
 have HV1:=zH hv1
 clear hv hv1 h
 obtain ⟨q0,hq0⟩:∃ q0,w.heap.size=q0:=⟨_,rfl⟩
 rw [hq0] at H1
 go_enter Tryz.func42,Tryz.ntmps42
 go_wp2_with fail
 clear hw1 hq0
 refine (index_sl _ kwords tDrop _ (kwords_row rfl _ rfl _) (by decide) (by decide)).mono ?_
 rw [HX.out]
 rintro e w2 ⟨rfl,rfl⟩
 have H2:=zH ((H1.out.alloc (.cells (svls kwords).toArray 9)).alloc (.cells #[zI zi 0,zI zi 1,zI zi 2,zI zi 4,zI zi 3,zI zi 3] 3))
 go_wp2_with fail
 refine (clone_sl _ [a,b,c] _ ((HV1.out.alloc _).alloc _) (by simp) (by simp) H2.out).mono ?_
 rintro e w3 ⟨v3,rfl,q3,h3⟩
 obtain ⟨g3,o3,c3,rfl,-,-,-⟩:=h3.row.get (by simp)
 have H3:=zH (h3.alloc (.cells #[zI zi 0,zI zi 0,zI zi 0] 3))
 have Q3:=zH ((Q1.out.trans (((Quiet.refl _).alloc _).alloc _)).trans q3)
 clear h3 q3
 go_wp2_with (at_builtin;refine wpList_append_sl (n:=3) (m:=3) rfl _ _ 70 rfl 3 i0 _ 1 8 Tryz.underlying70 HI.out HZ0.out HZ1.out HZ2.out rfl (by decide) rfl rfl H3.out (ivs_row (l:=[0,0,0]) rfl (by simp) _ rfl _) rfl (ivs_ones [0,0,0]) (by omega) (by omega) ?_;intro v4 w4 h4 q4;obtain ⟨g4,o4,c4,rfl,-,-,hc⟩:=h4.row.get (by simp);have H4:=zH h4;have Q4:=zH (Q3.out.trans (((Quiet.refl _).alloc _).trans q4));have y0:=hc 0 _ rfl;have y1:=hc 1 _ rfl;have y2:=hc 2 _ rfl;have y3:=hc 3 _ rfl;clear hc h4 q4)
 have z0:w4.drew.cell? ⟨g4,o4,none⟩=some (zI zi a):=y0
 have z1:w4.drew.cell? ⟨g4,o4+1,none⟩=some (zI zi b):=y1
 have z2:w4.drew.cell? ⟨g4,o4+2,none⟩=some (zI zi c):=y2
 have z3:w4.drew.cell? ⟨g4,o4+3,none⟩=some (zI zi 0):=y3
 refine wp_region_lexH (fun W=>W.cell? ⟨g4,o4,none⟩=some (zI zi a)∧W.cell? ⟨g4,o4+1,none⟩=some (zI zi b)∧W.cell? ⟨g4,o4+2,none⟩=some (zI zi c)∧W.cell? ⟨g4,o4+3,none⟩=some (zI zi 0)) [15] [14] (fz1 14 84 zord) _ (by kernel_rfl) (by kernel_rfl) (by kernel_rfl) fz1_fl fz1_no (fz1_ok rfl ⟨rfl,fun a w=>by kernel_rfl⟩) (fun W o h=>⟨cell_alloc_keep h.1 o,cell_alloc_keep h.2.1 o,cell_alloc_keep h.2.2.1 o,cell_alloc_keep h.2.2.2 o⟩) ⟨z0,z1,z2,z3⟩ H4.out.drew ?_
 clear y0 y1 y2 y3 z0 z1 z2 z3
 repeat (first|(refine LexHL.still (v:=?_) (by rfl) (by rfl) ?_ ?_;rotate_left;(focus (intro W hW;(try dsimp only at hW);go_simp;(try (with_reducible rfl));done));(try simp only [zP,zA,zB,zC])))
 refine LexHL.made rfl ?_
 intro q1 hlv
 clear hlv
 try simp only [zP,zA,zB,zC]
 refine LexHL.storeB (q:=q1) (t:=84) (cs:=zord) (B:=rw_ 3 1 (.slice (some ⟨g4,o4,none⟩) (3+3) c4) (3+3) (ivs [a,b,c]++ivs [0,0,0])*(bl q0 84 zord*R)) 84 _ _ rfl [zI zi 5,zI zi 0,zI zi a,zI zi b,zI zi c,zI zi 0] rfl rfl rfl (by kernel_rfl) (by simp [Ones,Value.oneCell']) rfl rfl (by decide) rfl (fun W R2 h=>⟨by simpa using row_cells h.left.right (by simp) 0 _ rfl,row_cells h.left.right (by simp) 1 _ rfl,row_cells h.left.right (by simp) 2 _ rfl,row_cells h.left.right (by simp) 3 _ rfl⟩) ?_
 try simp only [zP,zA,zB,zC]
 refine LexHL.done ?_
 intro W hS hA hq
 have HA:=zH hA;have QA:=zH (Q4.out.drew.trans hq)
 obtain ⟨z0,z1,z2,z3⟩:=hS
 clear hA hq
 have cq:=HA.out.bl.cells;have fq:=HA.out.bl.frees
 have HB:=zH (HA.out.setB 5 (zI zi 0));have QB:=zH (QA.out.setCell ⟨q1,5,none⟩ (zI zi 0))
 go_wp2_with (first|(refine wpList_load_whole rfl 84 _ rfl q1 rfl [zI zi 5,zI zi 0,zI zi a,zI zi b,zI zi c,zI zi 0] HB.out.bl Tryz.underlying84 rfl (by kernel_rfl) ?_)|(refine wpList_store_whole rfl 84 _ _ rfl q0 [zI zi 5,zI zi 0,zI zi a,zI zi b,zI zi c,zI zi 0] rfl rfl HB.out.three.bl rfl (by kernel_rfl) (by simp [Ones,Value.oneCell']) ?_;intro w6 h1' h2' h3';have HE:=zH (HB.out.three.grown h2' h1');have QE:=zH (QB.out.trans (Quiet.grown h2'));clear h1' h2' h3'))
 have hl:=run_load_part (P:=Tryz.prog) (off:=0) (ty:=84) (vs:=[zI zi 5,zI zi 0,zI zi a,zI zi b,zI zi c,zI zi 0]) HE.out.bl rfl Tryz.underlying84 rfl (by kernel_rfl)
 exact bodyPost_ret (results_mix rfl rfl rfl hl) rfl ⟨rfl,QE.out,HE.out.right.right.right⟩
end Go.Proofs.YtfihmpkkpgmdhaaGreatDoor
