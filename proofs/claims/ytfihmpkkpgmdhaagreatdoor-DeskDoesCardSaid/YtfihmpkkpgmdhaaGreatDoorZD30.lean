/-
  What the proof of DeskDoes leans on: definitions, laws, contracts of functions. No condition besides those that each theorem names.
-/
import Derived.Test.YtfihmpkkpgmdhaaGreatDoorZD25
import Derived.Test.YtfihmpkkpgmdhaaGreatDoorZD27
import Derived.Test.YtfihmpkkpgmdhaaGreatDoorZD13
set_option maxRecDepth 100000
set_option maxHeartbeats 16000000
set_option linter.unusedVariables false
set_option linter.unusedSimpArgs false
set_option linter.unnecessarySimpa false
namespace Go.Proofs.YtfihmpkkpgmdhaaGreatDoor
open Go.RowKit
open Go.Lib renaming hid → zH
open Go.Value renaming int → zI
open Go.IntKind renaming i64 → zi
theorem ordno_add (v:Value) (l:List Int) (w:World) (hv:RowAt w v l.length (ivs l)) (hne:l.length≠1) {R:HP} (h:Holds w R) :
  Calls Tryz.prog 42 #[.string (strOf tAdd),v] w (PostN w R (.tuple #[.agg #[zI zi 0,zI zi 0,zI zi 0,zI zi 0,zI zi 0,zI zi 0],.bool false])):=by
 obtain ⟨va,vc,rfl,-,-⟩:=hv.shape
 have HX:=zH (kidx_add)
 have hne0:¬ (l.length:Int)=1:=by omega
 have hne1:((l.length:Int) != 1)=true:=by simpa using hne0
 obtain ⟨w1,hw1,H1,Q1⟩:∃ w1,w.alloc (.cells #[zI zi 0,zI zi 0,zI zi 0,zI zi 0,zI zi 0,zI zi 0] 84)=w1∧Hid (Holds w1 (bl w.heap.size 84 zord*R))∧Hid (Quiet w w1):=
  ⟨_,rfl,zH (h.boxB (ty:=84) (cs:=zord) rfl),zH ((Quiet.refl w).alloc _)⟩
 clear hv h
 obtain ⟨q0,hq0⟩:∃ q0,w.heap.size=q0:=⟨_,rfl⟩
 rw [hq0] at H1
 go_enter Tryz.func42,Tryz.ntmps42
 go_wp2_with fail
 clear hw1 hq0
 refine (index_sl _ kwords tAdd _ (kwords_row rfl _ rfl _) (by decide) (by decide)).mono ?_
 rw [HX.out]
 rintro e w2 ⟨rfl,rfl⟩
 have H2:=zH ((H1.out.alloc (.cells (svls kwords).toArray 9)).alloc (.cells #[zI zi 0,zI zi 1,zI zi 2,zI zi 4,zI zi 3,zI zi 3] 3))
 go_wp2_with (refine wpList_store_whole rfl 84 _ _ rfl q0 zord rfl rfl H2.out.bl rfl (by kernel_rfl) (by simp [Ones,zord,Value.oneCell']) ?_;intro w6 h1' h2' h3';have HE:=zH (H2.out.grown h2' h1');have QE:=zH ((Q1.out.trans (((Quiet.refl _).alloc _).alloc _)).trans (Quiet.grown h2'));clear h1' h2' h3')
 have hl:=run_load_part (P:=Tryz.prog) (off:=0) (ty:=84) (vs:=zord) HE.out.bl rfl Tryz.underlying84 rfl (by kernel_rfl)
 exact bodyPost_ret (results_mix rfl rfl rfl hl) rfl ⟨rfl,QE.out,HE.out.right⟩
theorem ordno_take (v:Value) (l:List Int) (w:World) (hv:RowAt w v l.length (ivs l)) (hne:l.length≠2) {R:HP} (h:Holds w R) :
  Calls Tryz.prog 42 #[.string (strOf tTake),v] w (PostN w R (.tuple #[.agg #[zI zi 0,zI zi 0,zI zi 0,zI zi 0,zI zi 0,zI zi 0],.bool false])):=by
 obtain ⟨va,vc,rfl,-,-⟩:=hv.shape
 have HX:=zH (kidx_take)
 have hne0:¬ (l.length:Int)=2:=by omega
 have hne1:((l.length:Int) != 2)=true:=by simpa using hne0
 obtain ⟨w1,hw1,H1,Q1⟩:∃ w1,w.alloc (.cells #[zI zi 0,zI zi 0,zI zi 0,zI zi 0,zI zi 0,zI zi 0] 84)=w1∧Hid (Holds w1 (bl w.heap.size 84 zord*R))∧Hid (Quiet w w1):=
  ⟨_,rfl,zH (h.boxB (ty:=84) (cs:=zord) rfl),zH ((Quiet.refl w).alloc _)⟩
 clear hv h
 obtain ⟨q0,hq0⟩:∃ q0,w.heap.size=q0:=⟨_,rfl⟩
 rw [hq0] at H1
 go_enter Tryz.func42,Tryz.ntmps42
 go_wp2_with fail
 clear hw1 hq0
 refine (index_sl _ kwords tTake _ (kwords_row rfl _ rfl _) (by decide) (by decide)).mono ?_
 rw [HX.out]
 rintro e w2 ⟨rfl,rfl⟩
 have H2:=zH ((H1.out.alloc (.cells (svls kwords).toArray 9)).alloc (.cells #[zI zi 0,zI zi 1,zI zi 2,zI zi 4,zI zi 3,zI zi 3] 3))
 go_wp2_with (refine wpList_store_whole rfl 84 _ _ rfl q0 zord rfl rfl H2.out.bl rfl (by kernel_rfl) (by simp [Ones,zord,Value.oneCell']) ?_;intro w6 h1' h2' h3';have HE:=zH (H2.out.grown h2' h1');have QE:=zH ((Q1.out.trans (((Quiet.refl _).alloc _).alloc _)).trans (Quiet.grown h2'));clear h1' h2' h3')
 have hl:=run_load_part (P:=Tryz.prog) (off:=0) (ty:=84) (vs:=zord) HE.out.bl rfl Tryz.underlying84 rfl (by kernel_rfl)
 exact bodyPost_ret (results_mix rfl rfl rfl hl) rfl ⟨rfl,QE.out,HE.out.right⟩
theorem ordno_renew (v:Value) (l:List Int) (w:World) (hv:RowAt w v l.length (ivs l)) (hne:l.length≠4) {R:HP} (h:Holds w R) :
  Calls Tryz.prog 42 #[.string (strOf tRenew),v] w (PostN w R (.tuple #[.agg #[zI zi 0,zI zi 0,zI zi 0,zI zi 0,zI zi 0,zI zi 0],.bool false])):=by
 obtain ⟨va,vc,rfl,-,-⟩:=hv.shape
 have HX:=zH (kidx_renew)
 have hne0:¬ (l.length:Int)=4:=by omega
 have hne1:((l.length:Int) != 4)=true:=by simpa using hne0
 obtain ⟨w1,hw1,H1,Q1⟩:∃ w1,w.alloc (.cells #[zI zi 0,zI zi 0,zI zi 0,zI zi 0,zI zi 0,zI zi 0] 84)=w1∧Hid (Holds w1 (bl w.heap.size 84 zord*R))∧Hid (Quiet w w1):=
  ⟨_,rfl,zH (h.boxB (ty:=84) (cs:=zord) rfl),zH ((Quiet.refl w).alloc _)⟩
 clear hv h
 obtain ⟨q0,hq0⟩:∃ q0,w.heap.size=q0:=⟨_,rfl⟩
 rw [hq0] at H1
 go_enter Tryz.func42,Tryz.ntmps42
 go_wp2_with fail
 clear hw1 hq0
 refine (index_sl _ kwords tRenew _ (kwords_row rfl _ rfl _) (by decide) (by decide)).mono ?_
 rw [HX.out]
 rintro e w2 ⟨rfl,rfl⟩
 have H2:=zH ((H1.out.alloc (.cells (svls kwords).toArray 9)).alloc (.cells #[zI zi 0,zI zi 1,zI zi 2,zI zi 4,zI zi 3,zI zi 3] 3))
 go_wp2_with (refine wpList_store_whole rfl 84 _ _ rfl q0 zord rfl rfl H2.out.bl rfl (by kernel_rfl) (by simp [Ones,zord,Value.oneCell']) ?_;intro w6 h1' h2' h3';have HE:=zH (H2.out.grown h2' h1');have QE:=zH ((Q1.out.trans (((Quiet.refl _).alloc _).alloc _)).trans (Quiet.grown h2'));clear h1' h2' h3')
 have hl:=run_load_part (P:=Tryz.prog) (off:=0) (ty:=84) (vs:=zord) HE.out.bl rfl Tryz.underlying84 rfl (by kernel_rfl)
 exact bodyPost_ret (results_mix rfl rfl rfl hl) rfl ⟨rfl,QE.out,HE.out.right⟩
theorem ordno_done (v:Value) (l:List Int) (w:World) (hv:RowAt w v l.length (ivs l)) (hne:l.length≠3) {R:HP} (h:Holds w R) :
  Calls Tryz.prog 42 #[.string (strOf tDone),v] w (PostN w R (.tuple #[.agg #[zI zi 0,zI zi 0,zI zi 0,zI zi 0,zI zi 0,zI zi 0],.bool false])):=by
 obtain ⟨va,vc,rfl,-,-⟩:=hv.shape
 have HX:=zH (kidx_done)
 have hne0:¬ (l.length:Int)=3:=by omega
 have hne1:((l.length:Int) != 3)=true:=by simpa using hne0
 obtain ⟨w1,hw1,H1,Q1⟩:∃ w1,w.alloc (.cells #[zI zi 0,zI zi 0,zI zi 0,zI zi 0,zI zi 0,zI zi 0] 84)=w1∧Hid (Holds w1 (bl w.heap.size 84 zord*R))∧Hid (Quiet w w1):=
  ⟨_,rfl,zH (h.boxB (ty:=84) (cs:=zord) rfl),zH ((Quiet.refl w).alloc _)⟩
 clear hv h
 obtain ⟨q0,hq0⟩:∃ q0,w.heap.size=q0:=⟨_,rfl⟩
 rw [hq0] at H1
 go_enter Tryz.func42,Tryz.ntmps42
 go_wp2_with fail
 clear hw1 hq0
 refine (index_sl _ kwords tDone _ (kwords_row rfl _ rfl _) (by decide) (by decide)).mono ?_
 rw [HX.out]
 rintro e w2 ⟨rfl,rfl⟩
 have H2:=zH ((H1.out.alloc (.cells (svls kwords).toArray 9)).alloc (.cells #[zI zi 0,zI zi 1,zI zi 2,zI zi 4,zI zi 3,zI zi 3] 3))
 go_wp2_with (refine wpList_store_whole rfl 84 _ _ rfl q0 zord rfl rfl H2.out.bl rfl (by kernel_rfl) (by simp [Ones,zord,Value.oneCell']) ?_;intro w6 h1' h2' h3';have HE:=zH (H2.out.grown h2' h1');have QE:=zH ((Q1.out.trans (((Quiet.refl _).alloc _).alloc _)).trans (Quiet.grown h2'));clear h1' h2' h3')
 have hl:=run_load_part (P:=Tryz.prog) (off:=0) (ty:=84) (vs:=zord) HE.out.bl rfl Tryz.underlying84 rfl (by kernel_rfl)
 exact bodyPost_ret (results_mix rfl rfl rfl hl) rfl ⟨rfl,QE.out,HE.out.right⟩
theorem ordno_drop (v:Value) (l:List Int) (w:World) (hv:RowAt w v l.length (ivs l)) (hne:l.length≠3) {R:HP} (h:Holds w R) :
  Calls Tryz.prog 42 #[.string (strOf tDrop),v] w (PostN w R (.tuple #[.agg #[zI zi 0,zI zi 0,zI zi 0,zI zi 0,zI zi 0,zI zi 0],.bool false])):=by
 obtain ⟨va,vc,rfl,-,-⟩:=hv.shape
 have HX:=zH (kidx_drop)
 have hne0:¬ (l.length:Int)=3:=by omega
 have hne1:((l.length:Int) != 3)=true:=by simpa using hne0
 obtain ⟨w1,hw1,H1,Q1⟩:∃ w1,w.alloc (.cells #[zI zi 0,zI zi 0,zI zi 0,zI zi 0,zI zi 0,zI zi 0] 84)=w1∧Hid (Holds w1 (bl w.heap.size 84 zord*R))∧Hid (Quiet w w1):=
  ⟨_,rfl,zH (h.boxB (ty:=84) (cs:=zord) rfl),zH ((Quiet.refl w).alloc _)⟩
 clear hv h
 obtain ⟨q0,hq0⟩:∃ q0,w.heap.size=q0:=⟨_,rfl⟩
 rw [hq0] at H1
 go_enter Tryz.func42,Tryz.ntmps42
 go_wp2_with fail
 clear hw1 hq0
 refine (index_sl _ kwords tDrop _ (kwords_row rfl _ rfl _) (by decide) (by decide)).mono ?_
 rw [HX.out]
 rintro e w2 ⟨rfl,rfl⟩
 have H2:=zH ((H1.out.alloc (.cells (svls kwords).toArray 9)).alloc (.cells #[zI zi 0,zI zi 1,zI zi 2,zI zi 4,zI zi 3,zI zi 3] 3))
 go_wp2_with (refine wpList_store_whole rfl 84 _ _ rfl q0 zord rfl rfl H2.out.bl rfl (by kernel_rfl) (by simp [Ones,zord,Value.oneCell']) ?_;intro w6 h1' h2' h3';have HE:=zH (H2.out.grown h2' h1');have QE:=zH ((Q1.out.trans (((Quiet.refl _).alloc _).alloc _)).trans (Quiet.grown h2'));clear h1' h2' h3')
 have hl:=run_load_part (P:=Tryz.prog) (off:=0) (ty:=84) (vs:=zord) HE.out.bl rfl Tryz.underlying84 rfl (by kernel_rfl)
 exact bodyPost_ret (results_mix rfl rfl rfl hl) rfl ⟨rfl,QE.out,HE.out.right⟩
theorem ordno_none (v:Value) (l:List Int) (w:World) (hv:RowAt w v l.length (ivs l)) (x:List UInt8) (hx:x∉kwords) {R:HP} (h:Holds w R) :
  Calls Tryz.prog 42 #[.string (strOf x),v] w (PostN w R (.tuple #[.agg #[zI zi 0,zI zi 0,zI zi 0,zI zi 0,zI zi 0,zI zi 0],.bool false])):=by
 obtain ⟨va,vc,rfl,-,-⟩:=hv.shape
 have HX:=zH (idx_miss hx)
 obtain ⟨w1,hw1,H1,Q1⟩:∃ w1,w.alloc (.cells #[zI zi 0,zI zi 0,zI zi 0,zI zi 0,zI zi 0,zI zi 0] 84)=w1∧Hid (Holds w1 (bl w.heap.size 84 zord*R))∧Hid (Quiet w w1):=
  ⟨_,rfl,zH (h.boxB (ty:=84) (cs:=zord) rfl),zH ((Quiet.refl w).alloc _)⟩
 clear hv h
 obtain ⟨q0,hq0⟩:∃ q0,w.heap.size=q0:=⟨_,rfl⟩
 rw [hq0] at H1
 go_enter Tryz.func42,Tryz.ntmps42
 go_wp2_with fail
 clear hw1 hq0
 refine (index_sl _ kwords x _ (kwords_row rfl _ rfl _) (by decide) (by decide)).mono ?_
 rw [HX.out]
 rintro e w2 ⟨rfl,rfl⟩
 have H2:=zH ((H1.out.alloc (.cells (svls kwords).toArray 9)).alloc (.cells #[zI zi 0,zI zi 1,zI zi 2,zI zi 4,zI zi 3,zI zi 3] 3))
 go_wp2_with (refine wpList_store_whole rfl 84 _ _ rfl q0 zord rfl rfl H2.out.bl rfl (by kernel_rfl) (by simp [Ones,zord,Value.oneCell']) ?_;intro w6 h1' h2' h3';have HE:=zH (H2.out.grown h2' h1');have QE:=zH ((Q1.out.trans (((Quiet.refl _).alloc _).alloc _)).trans (Quiet.grown h2'));clear h1' h2' h3')
 have hl:=run_load_part (P:=Tryz.prog) (off:=0) (ty:=84) (vs:=zord) HE.out.bl rfl Tryz.underlying84 rfl (by kernel_rfl)
 exact bodyPost_ret (results_mix rfl rfl rfl hl) rfl ⟨rfl,QE.out,HE.out.right⟩
theorem order_sl (v:Value) (x:List UInt8) (l:List Int) (o:Ord) (w:World) (hv:RowAt w v l.length (ivs l)) (ho:orderOf x l=some o) {R:HP} (h:Holds w R) :
  Calls Tryz.prog 42 #[.string (strOf x),v] w (PostN w R (.tuple #[oval o,.bool true])):=by
 unfold orderOf at ho
 split at ho
 ·rename_i e;subst e
  split at ho
  ·obtain rfl:=Option.some.inj ho;exact order_add v _ w hv h
  ·cases ho
 split at ho
 ·rename_i e;subst e
  split at ho
  ·obtain rfl:=Option.some.inj ho;exact order_take v _ _ w hv h
  ·cases ho
 split at ho
 ·rename_i e;subst e
  split at ho
  ·obtain rfl:=Option.some.inj ho;exact order_renew v _ _ _ _ w hv h
  ·cases ho
 split at ho
 ·rename_i e;subst e
  split at ho
  ·obtain rfl:=Option.some.inj ho;exact order_done v _ _ _ w hv h
  ·cases ho
 split at ho
 ·rename_i e;subst e
  split at ho
  ·obtain rfl:=Option.some.inj ho;exact order_drop v _ _ _ w hv h
  ·cases ho
 cases ho
theorem order_no (v:Value) (x:List UInt8) (l:List Int) (w:World) (hv:RowAt w v l.length (ivs l)) (hx:x≠[]) (ho:orderOf x l=none) {R:HP} (h:Holds w R) :
  Calls Tryz.prog 42 #[.string (strOf x),v] w (PostN w R (.tuple #[.agg #[zI zi 0,zI zi 0,zI zi 0,zI zi 0,zI zi 0,zI zi 0],.bool false])):=by
 unfold orderOf at ho
 by_cases e1:x=tAdd
 ·subst e1
  refine ordno_add v l w hv (fun hn=>?_) h
  match l,hn with
  | [a],_=>simp at ho
 by_cases e2:x=tTake
 ·subst e2
  refine ordno_take v l w hv (fun hn=>?_) h
  match l,hn with
  | [a,b],_=>rw [if_neg e1] at ho;simp at ho
 by_cases e3:x=tRenew
 ·subst e3
  refine ordno_renew v l w hv (fun hn=>?_) h
  match l,hn with
  | [a,b,c,d],_=>rw [if_neg e1,if_neg e2] at ho;simp at ho
 by_cases e4:x=tDone
 ·subst e4
  refine ordno_done v l w hv (fun hn=>?_) h
  match l,hn with
  | [a,b,c],_=>rw [if_neg e1,if_neg e2,if_neg e3] at ho;simp at ho
 by_cases e5:x=tDrop
 ·subst e5
  refine ordno_drop v l w hv (fun hn=>?_) h
  match l,hn with
  | [a,b,c],_=>rw [if_neg e1,if_neg e2,if_neg e3,if_neg e4] at ho;simp at ho
 exact ordno_none v l w hv x (by simp [kwords,hx,e1,e2,e3,e4,e5]) h
def wds (v:Value) (l:List (List UInt8)):HP:=rw_ 9 1 v l.length (svls l)
theorem wds_cons {w:World} {v:Value} {x:List UInt8} {l:List (List UInt8)} {A:HP} (h:Holds w (wds v (x::l)*A)):∃ g c,v=.slice (some ⟨g,0,none⟩) (l.length+1) c∧l.length+1≤c∧c≤9223372036854775807:=by
 obtain ⟨h0,ho,⟨rfl,hn⟩|⟨g,cap,cur,rfl,hb,h1,h2,h3,h4⟩⟩:=h.own
 ·cases hn
 ·exact ⟨g,cap,rfl,h1,by unfold maxLen at h3;exact h3⟩
theorem wds_cells {w:World} {g n c:Nat} {l:List (List UInt8)} {A:HP} (h:Holds w (wds (.slice (some ⟨g,0,none⟩) n c) l*A)) (j:Nat) (x:List UInt8) (hj:l[j]? = some x):w.cell? ⟨g,j,none⟩=some (.string (strOf x)):=by
 obtain ⟨g',o',c',e,-,-,hc⟩:=h.row.get (by intro e;rw [List.length_eq_zero_iff.1 e] at hj;simp at hj)
 simp only [Value.slice.injEq,Option.some.injEq,Addr.mk.injEq,and_true] at e
 obtain ⟨⟨rfl,rfl⟩,-,rfl⟩:=e
 simpa using hc j _ (svls_get hj)
theorem wds_tail {w:World} {g n c:Nat} {l:List (List UInt8)} {A:HP} (h:Holds w (wds (.slice (some ⟨g,0,none⟩) n c) l*A)) (hn:n=l.length) {q m d:Nat} (hq:q+m=n) (hd:q+d=c):RowAt w (.slice (some ⟨g,q,none⟩) m d) m (svls (l.drop q)):=by
 subst hn
 obtain ⟨a',c',e,h1,h2,h3,h4⟩:=h.row
 simp only [Value.slice.injEq] at e
 obtain ⟨rfl,-,rfl⟩:=e
 refine ⟨_,_,rfl,by omega,by omega,by simp,fun hm=>⟨g,q,rfl,fun j u hj=>?_⟩⟩
 obtain ⟨g',o',e,hc⟩:=h4 (by omega)
 simp only [Option.some.injEq,Addr.mk.injEq,and_true] at e
 obtain ⟨rfl,rfl⟩:=e
 have:=hc (q+j) u (by simpa [svls,List.map_drop,List.getElem?_drop] using hj)
 simpa using this
theorem wds_part {w:World} {g n c:Nat} {l:List (List UInt8)} {A:HP} (h:Holds w (wds (.slice (some ⟨g,0,none⟩) n c) l*A)) (hn:n=l.length) {q m d:Nat} (hq:q+m≤n) (hd:q+d=c):RowAt w (.slice (some ⟨g,q,none⟩) m d) m (svls ((l.drop q).take m)):=by
 obtain ⟨a',c',e,h1,h2,h3,h4⟩:=wds_tail h hn (q:=q) (m:=n-q) (d:=d) (by omega) hd
 simp only [Value.slice.injEq] at e
 obtain ⟨rfl,-,rfl⟩:=e
 refine ⟨_,_,rfl,by omega,by omega,by simp,fun hm=>⟨g,q,rfl,fun j u hj=>?_⟩⟩
 obtain ⟨g',o',e,hc⟩:=h4 (by omega)
 simp only [Option.some.injEq,Addr.mk.injEq,and_true] at e
 obtain ⟨rfl,rfl⟩:=e
 refine hc j u ?_
 simp only [svls,List.getElem?_map,List.getElem?_take] at hj ⊢
 split at hj
 ·exact hj
 ·cases hj
theorem inum_tail {w:World} {g n c:Nat} {l:List Int} {A:HP} (h:Holds w (rw_ 3 1 (.slice (some ⟨g,0,none⟩) n c) n (ivs l)*A)) (hn:l.length=n) (h1:1≤n):RowAt w (.slice (if c=1 then some ⟨g,0,none⟩ else some ⟨g,1,none⟩) (n-1) (c-1)) (n-1) (ivs (l.drop 1)):=by
 obtain ⟨a',c',e,h1',h2,h3,h4⟩:=h.row
 simp only [Value.slice.injEq] at e
 obtain ⟨rfl,-,rfl⟩:=e
 refine ⟨_,_,rfl,by omega,by omega,by split<;>simp,fun hm=>?_⟩
 obtain ⟨g',o',e,hc⟩:=h4 (by omega)
 simp only [Option.some.injEq,Addr.mk.injEq,and_true] at e
 obtain ⟨rfl,rfl⟩:=e
 rw [if_neg (by omega)]
 refine ⟨g,1,rfl,fun j u hj=>?_⟩
 have:=hc (j+1) u (by simpa [ivs,List.map_drop,List.getElem?_drop] using hj)
 simpa [Nat.add_comm] using this
theorem inum_cons {w:World} {v:Value} {x:Int} {l:List Int} {A:HP} (h:Holds w (inum v (x::l)*A)):∃ g c,v=.slice (some ⟨g,0,none⟩) (l.length+1) c∧l.length+1≤c∧c≤9223372036854775807:=by
 obtain ⟨h0,ho,⟨rfl,hn⟩|⟨g,cap,cur,rfl,hb,h1,h2,h3,h4⟩⟩:=h.own
 ·cases hn
 ·exact ⟨g,cap,rfl,h1,by unfold maxLen at h3;exact h3⟩
theorem inum_cell {w:World} {g n c:Nat} {l:List Int} {A:HP} (h:Holds w (inum (.slice (some ⟨g,0,none⟩) n c) l*A)) (j:Nat) (x:Int) (hj:l[j]? = some x):w.cell? ⟨g,j,none⟩=some (zI zi x):=by
 obtain ⟨g',o',c',e,-,-,hc⟩:=h.row.get (by intro e;rw [List.length_eq_zero_iff.1 e] at hj;simp at hj)
 simp only [Value.slice.injEq,Option.some.injEq,Addr.mk.injEq,and_true] at e
 obtain ⟨⟨rfl,rfl⟩,-,rfl⟩:=e
 simpa using hc j _ (by simp [ivs,hj])
theorem bytes_no {x y:List UInt8} (h:x≠y):((strOf x).toList==y)=false:=by
 rw [beq_eq_false_iff_ne,ByteArray.toList_eq,strOf_data]
 exact h
theorem bytes_yes (x:List UInt8):((strOf x).toList==x)=true:=by
 rw [beq_iff_eq,ByteArray.toList_eq,strOf_data]
def zstep (kd:Int):List Value:=[zI zi kd,zI zi 0,zI zi 0,zI zi 0,zI zi 0,zI zi 0,zI zi 0,zI zi 0,zI zi 0]
end Go.Proofs.YtfihmpkkpgmdhaaGreatDoor
section
namespace Go.Proofs.YtfihmpkkpgmdhaaGreatDoor
open List renaming setIfInBounds_toArray → zA, set_cons_zero → zB, set_cons_succ → zC
open Go.Act renaming put → zP
open Go.Lib renaming hid → zH
open Go.Value renaming int → zI
open Go.IntKind renaming i64 → zi
open Go.RowKit
section
variable {P:Program} {ops:Array Oper} {S:World→Prop} {path:List Nat} {Q:Exit→Act→World→Prop}
theorem LexL.storeP {o:Oper} {i:Nat} {rest:List Oper} {a:Act} {w:World} {q off:Nat} {t:TypeId} {cs:List Value} {B:HP} (ty:TypeId) (x y:Operand) (ho:o.op=.store ty x y) (vs:List Value) (hx:a.eval x=.pointer (some ⟨q,off,Option.none⟩)) (hy:a.eval y=.agg vs.toArray) (hfit:off+vs.length≤cs.length)
  (hi:(P.info? ty).map (·.size)=some vs.length) (h1:Ones vs) (hw:Region.wanted o (yielded ops a.tmps)=true) (hp:i∈path) (hA:Holds w (bl q t cs*B))
  (h:∀ w',Holds w' (bl q t (cs.take off++vs++cs.drop (off+vs.length))*B)→Quiet w w'→S w'∧LexL P ops S path Q (i+1) rest (a.put o.dst undef) w'):LexL P ops S path Q i (o::rest) a w:=by
 obtain ⟨w',e,hb,hg⟩:=exec_store_part (P:=P) ty x y ho q off vs hx hy hA.bl hfit hi h1
 obtain ⟨hS,hl⟩:=h w' (hA.grown hg hb) (Quiet.grown hg)
 exact LexL.store hw hp e hS hl
end
theorem kst_bg {b bg:Nat} {told:List UInt8} {R:HP} {w:World} (h:Holds w (kst b bg told*R)):w.cell? ⟨b,2,none⟩=some (.pointer (some ⟨bg,0,none⟩)):=by
 obtain ⟨u,v,h⟩:=kst_open h
 exact h.bl.cell 2 _ rfl
theorem node_order (b bg:Nat) (told:List UInt8) (g:Gld) (v:Value) (w1:List UInt8) (r:List (List UInt8)) (n:Int) (m:List Int) (o:Ord) (w:World) {w0:World} {R:HP}
  (h:Holds w (kst b bg told*(gld bg g*(wds v (w1::r)*(lay w0*R))))) (hg:g.Good) (hl:r.length≤10000) (hs:∀ s∈w1::r,s.length≤100000) (h1:w1≠tTear) (hr:numsOf r=some (n::m)) (ho:orderOf w1 m=some o) (ht:told.length≤300000000) :
  Calls Tryz.prog 24 #[.pointer (some ⟨b,0,none⟩),v] w fun e w'=>e=.returned (.bool true)∧Quiet w w'∧Holds w' (kst b bg (told++line (ansTxt (g.step ⟨2,n,0,o⟩).2 (decide (o.kind=2))))*(gld bg (g.step ⟨2,n,0,o⟩).1*(wds v (w1::r)*(lay w0*R)))):=by
 have hrl:=numsOf_len hr
 obtain ⟨gl,cl,rfl,c1,c2⟩:=wds_cons h.three
 obtain ⟨wa,hwa,H0,Q0⟩:∃ wa,w.alloc (.cells #[zI zi 0,zI zi 0,zI zi 0,zI zi 0,zI zi 0,zI zi 0,zI zi 0,zI zi 0,zI zi 0] 86)=wa∧Hid (Holds wa (bl w.heap.size 86 (zstep 0)*(kst b bg told*(gld bg g*(wds (.slice (some ⟨gl,0,none⟩) (r.length+1) cl) (w1::r)*(lay w0*R))))))∧Hid (Quiet w wa):=
  ⟨_,rfl,zH (h.boxB (ty:=86) (cs:=zstep 0) rfl),zH ((Quiet.refl w).alloc _)⟩
 have HR:=zH hr;have HO:=zH ho;have HS:=zH hs;have HG:=zH hg
 have hb0:=bytes_no h1
 simp only [tTear] at hb0
 clear h hr ho hs hg h1
 obtain ⟨qx,hqx⟩:∃ qx,w.heap.size=qx:=⟨_,rfl⟩
 rw [hqx] at H0
 have hr2:r.length=m.length+1:=by rw [←hrl];rfl
 have hl2:¬ ((r.length:Int)+1<2):=by omega
 clear hrl
 go_enter Tryz.func24,Tryz.ntmps24
 go_wp2_with (first|(refine wpList_built rfl 86 _ rfl (zstep 2) (by kernel_rfl) ?_)|(refine wpList_store_whole rfl 86 _ _ rfl qx (zstep 2) rfl rfl H0.out.bl rfl (by kernel_rfl) (by simp [Ones,zstep,Value.oneCell']) ?_;intro wb h1' h2' h3';have HB:=zH (H0.out.grown h2' h1');have QB:=zH (Q0.out.trans (Quiet.grown h2'));have l0:=wds_cells HB.out.four 0 _ rfl;clear h1' h2' h3'))
 have hv2:RowAt wb (.slice (some ⟨gl,1,none⟩) (m.length+1) (cl-1)) r.length (svls r):=by rw [hr2];exact wds_tail HB.out.four (by simp<;>omega) (by omega) (by omega)
 refine (numbers_sl _ r (n::m) _ (HB.out.eq (by ac_rfl:_=lay w0*(bl qx 86 (zstep 2)*(kst b bg told*(gld bg g*(wds (.slice (some ⟨gl,0,none⟩) (r.length+1) cl) (w1::r)*R)))))) hv2 (by omega) (fun s hs=>HS.out s (List.mem_cons_of_mem _ hs)) HR.out).mono ?_
 rintro e w5 ⟨v5,rfl,q5,h5⟩
 obtain ⟨gn,cn,rfl,d1,d2⟩:=inum_cons h5
 have H5:=zH h5;have Q5:=zH (QB.out.trans q5)
 clear h5 q5 hv2
 go_wp2_with fail
 have l5:w5.drew.cell? ⟨gl,0,none⟩=some (.string (strOf w1)):=wds_cells (H5.out.drew.eq (by ac_rfl:_=wds (.slice (some ⟨gl,0,none⟩) (r.length+1) cl) (w1::r)*(inum (.slice (some ⟨gn,0,none⟩) (m.length+1) cn) (n::m)*(lay w0*(bl qx 86 (zstep 2)*(kst b bg told*(gld bg g*R))))))) 0 _ rfl
 refine wp_region_lexH (fun W=>W.cell? ⟨gl,0,none⟩=some (.string (strOf w1))) [5,10] [9] (fz1 9 84 zord) _ (by kernel_rfl) (by kernel_rfl) (by kernel_rfl) fz1_fl fz1_no (fz1_ok rfl ⟨rfl,fun a w=>by kernel_rfl⟩) (fun W o h=>cell_alloc_keep h o) l5 H5.out.drew ?_
 clear l5
 have hp1:(0:Int)<(m.length:Int)+1+1:=by omega
 have hp2:¬ (m.length:Int)+1<1:=by omega
 repeat (first|(refine LexHL.still (v:=?_) (by rfl) (by rfl) ?_ ?_;rotate_left;(focus (intro W hW;(try dsimp only at hW);go_simp;(try (with_reducible rfl));done));(try simp only [zP,zA,zB,zC])))
 obtain ⟨vn,hvn⟩:∃ vn:Option Addr,(if cn=1 then some ⟨gn,0,none⟩ else some ⟨gn,1,none⟩)=vn:=⟨_,rfl⟩
 have HVN:=zH hvn;clear hvn
 refine LexHL.still (v:=.slice vn m.length (cn-1)) rfl rfl (fun W hW=>by rw [←HVN.out];go_simp) ?_
 try simp only [zP,zA,zB,zC]
 refine LexHL.call (f:=42) (args:=#[.string (strOf w1),.slice vn m.length (cn-1)]) rfl rfl (by decide) (fun W hS=>by go_simp) ?_
 intro W R1 hS hq hA
 have hrow:RowAt W (.slice vn m.length (cn-1)) m.length (ivs m):=by
  rw [←HVN.out]
  have:=inum_tail (show Holds W (rw_ 3 1 (.slice (some ⟨gn,0,none⟩) (m.length+1) cn) (m.length+1) (ivs (n::m))*_) from hA.eq (HP.assoc _ _ _)) rfl (by omega)
  simpa using this
 refine (order_sl _ w1 m o W hrow HO.out hA).mono ?_
 rintro e w6 ⟨rfl,q6,h6⟩
 refine ⟨_,rfl,wds_cells (h6.eq (by ac_rfl:_=wds (.slice (some ⟨gl,0,none⟩) (r.length+1) cl) (w1::r)*(inum (.slice (some ⟨gn,0,none⟩) (m.length+1) cn) (n::m)*(lay w0*(bl qx 86 (zstep 2)*(kst b bg told*(gld bg g*R))))*R1))) 0 _ rfl,hq.trans q6,_,h6,?_⟩
 clear hS hq hA hrow q6 h6
 dsimp only
 repeat (first|(refine LexHL.still (v:=?_) (by rfl) (by rfl) ?_ ?_;rotate_left;(focus (intro W hW;(try dsimp only at hW);go_simp;(try (with_reducible rfl));done));(try simp only [zP,zA,zB,zC])))
 refine LexHL.made rfl ?_
 intro qo hlv
 clear hlv
 try simp only [zP,zA,zB,zC]
 refine LexHL.storeB (q:=qo) (t:=84) (cs:=zord) (B:=inum (.slice (some ⟨gn,0,none⟩) (m.length+1) cn) (n::m)*(lay w0*(bl qx 86 (zstep 2)*(kst b bg told*(gld bg g*(wds (.slice (some ⟨gl,0,none⟩) (r.length+1) cl) (w1::r)*R)))))) 84 _ _ rfl [zI zi o.kind,zI zi o.now,zI zi o.job,zI zi o.tr,zI zi o.wk,zI zi o.tm] rfl rfl rfl (by kernel_rfl) (by simp [Ones,Value.oneCell']) rfl rfl (by decide) rfl (fun W R2 h=>wds_cells (h.eq (by ac_rfl:_=wds (.slice (some ⟨gl,0,none⟩) (r.length+1) cl) (w1::r)*(bl qo 84 [zI zi o.kind,zI zi o.now,zI zi o.job,zI zi o.tr,zI zi o.wk,zI zi o.tm]*(inum (.slice (some ⟨gn,0,none⟩) (m.length+1) cn) (n::m)*(lay w0*(bl qx 86 (zstep 2)*(kst b bg told*(gld bg g*R)))))*R2))) 0 _ rfl) ?_
 try simp only [zP,zA,zB,zC]
 repeat (first|(refine LexHL.still (v:=?_) (by rfl) (by rfl) ?_ ?_;rotate_left;(focus (intro W hW;(try dsimp only at hW);go_simp;(try (with_reducible rfl));done));(try simp only [zP,zA,zB,zC])))
 refine LexHL.done ?_
 intro W hS hA hq
 have HA:=zH hA;have QA:=zH (Q5.out.drew.trans hq)
 clear hS hA hq
 have hord:∀ (W:World),Holds W (bl qo 84 [zI zi o.kind,zI zi o.now,zI zi o.job,zI zi o.tr,zI zi o.wk,zI zi o.tm]*(inum (.slice (some ⟨gn,0,none⟩) (m.length+1) cn) (n::m)*(lay w0*(bl qx 86 (zstep 2)*(kst b bg told*(gld bg g*(wds (.slice (some ⟨gl,0,none⟩) (r.length+1) cl) (w1::r)*R)))))))→True:=fun _ _=>trivial
 clear hord
 go_wp2_with fail
 have HX:=zH (HA.out.drew.eq (by ac_rfl:_=bl qx 86 (zstep 2)*(bl qo 84 [zI zi o.kind,zI zi o.now,zI zi o.job,zI zi o.tr,zI zi o.wk,zI zi o.tm]*(inum (.slice (some ⟨gn,0,none⟩) (m.length+1) cn) (n::m)*(lay w0*(kst b bg told*(gld bg g*(wds (.slice (some ⟨gl,0,none⟩) (r.length+1) cl) (w1::r)*R))))))))
 have y1:=HX.out.bl.cell 1 _ rfl
 have f1:=HX.out.bl.free 1
 refine wp_region_lex (fun W=>W.cell? ⟨gn,0,none⟩=some (zI zi n)∧BlockAt W qo 84 [zI zi o.kind,zI zi o.now,zI zi o.job,zI zi o.tr,zI zi o.wk,zI zi o.tm]) [5,7] (by kernel_rfl) (by kernel_rfl) ⟨inum_cell HX.out.three 0 _ rfl,HX.out.two.bl⟩ ?_
 repeat (first|(refine LexL.none (by rfl) ?_;(try simp only [zP,zA,zB,zC]))|(refine LexL.still (v:=?_) (by rfl) ?_ ?_;rotate_left;(focus (intro W hW;(try dsimp only at hW);go_simp;(try (with_reducible rfl));done));(try simp only [zP,zA,zB,zC])))
 refine LexL.still (v:=.agg #[zI zi o.kind,zI zi o.now,zI zi o.job,zI zi o.tr,zI zi o.wk,zI zi o.tm]) (by rfl) (fun W hW=>exec_load_part 84 _ rfl qo 0 rfl [zI zi o.kind,zI zi o.now,zI zi o.job,zI zi o.tr,zI zi o.wk,zI zi o.tm] hW.2 rfl Tryz.underlying84 rfl (by kernel_rfl)) ?_
 try simp only [zP,zA,zB,zC]
 repeat (first|(refine LexL.none (by rfl) ?_;(try simp only [zP,zA,zB,zC]))|(refine LexL.still (v:=?_) (by rfl) ?_ ?_;rotate_left;(focus (intro W hW;(try dsimp only at hW);go_simp;(try (with_reducible rfl));done));(try simp only [zP,zA,zB,zC])))
 have HX2:=zH (HX.out.setB 1 (zI zi n))
 refine LexL.store (w1:=W.drew.setCell ⟨qx,1,none⟩ (zI zi n)) (by rfl) (by decide) (by go_simp) ⟨inum_cell HX2.out.three 0 _ rfl,HX2.out.two.bl⟩ ?_
 try simp only [zP,zA,zB,zC]
 repeat (first|(refine LexL.none (by rfl) ?_;(try simp only [zP,zA,zB,zC]))|(refine LexL.still (v:=?_) (by rfl) ?_ ?_;rotate_left;(focus (intro W hW;(try dsimp only at hW);go_simp;(try (with_reducible rfl));done));(try simp only [zP,zA,zB,zC])))
 refine LexL.storeP (q:=qx) (off:=3) (t:=86) (cs:=(zstep 2).set 1 (zI zi n)) 84 _ _ rfl [zI zi o.kind,zI zi o.now,zI zi o.job,zI zi o.tr,zI zi o.wk,zI zi o.tm] rfl rfl (by simp [zstep]) (by kernel_rfl) (by simp [Ones,Value.oneCell']) (by rfl) (by decide) HX2.out ?_
 intro W3 h3 q3
 have H3:Hid (Holds W3 (bl qx 86 [zI zi 2,zI zi n,zI zi 0,zI zi o.kind,zI zi o.now,zI zi o.job,zI zi o.tr,zI zi o.wk,zI zi o.tm]*(bl qo 84 [zI zi o.kind,zI zi o.now,zI zi o.job,zI zi o.tr,zI zi o.wk,zI zi o.tm]*(inum (.slice (some ⟨gn,0,none⟩) (m.length+1) cn) (n::m)*(lay w0*(kst b bg told*(gld bg g*(wds (.slice (some ⟨gl,0,none⟩) (r.length+1) cl) (w1::r)*R)))))))):=zH h3
 have Q3:=zH ((QA.out.drew.setCell ⟨qx,1,none⟩ (zI zi n)).trans q3)
 refine ⟨⟨inum_cell H3.out.three 0 _ rfl,H3.out.two.bl⟩,?_⟩
 clear h3 q3 y1 f1
 try simp only [zP,zA,zB,zC]
 refine LexL.done ?_
 go_wp2_with fail
 obtain ⟨RX,hRX⟩:∃ RX:HP,(bl qx 86 [zI zi 2,zI zi n,zI zi 0,zI zi o.kind,zI zi o.now,zI zi o.job,zI zi o.tr,zI zi o.wk,zI zi o.tm]*(bl qo 84 [zI zi o.kind,zI zi o.now,zI zi o.job,zI zi o.tr,zI zi o.wk,zI zi o.tm]*inum (.slice (some ⟨gn,0,none⟩) (m.length+1) cn) (n::m)))=RX:=⟨_,rfl⟩
 have hx4:Holds W3.drew (gld bg g*(kst b bg told*(lay w0*(RX*(wds (.slice (some ⟨gl,0,none⟩) (r.length+1) cl) (w1::r)*R))))):=by
  rw [←hRX]
  exact H3.out.drew.eq (by ac_rfl)
 have mkS:∀ (W:World) (td:List UInt8) (A B:HP),Holds W (A*(kst b bg td*(lay w0*(RX*B))))→W.cell? ⟨b,2,none⟩=some (.pointer (some ⟨bg,0,none⟩))∧BlockAt W qx 86 [zI zi 2,zI zi n,zI zi 0,zI zi o.kind,zI zi o.now,zI zi o.job,zI zi o.tr,zI zi o.wk,zI zi o.tm]∧W.cell? ⟨qx,0,none⟩=some (zI zi 2)∧W.cell? ⟨qo,0,none⟩=some (zI zi o.kind):=fun W td A B h=>by
  have h2:=h.four
  rw [←hRX] at h2
  exact ⟨kst_bg h.two,h2.left.bl,h2.left.bl.cell 0 _ rfl,h2.left.two.bl.cell 0 _ rfl⟩
 have HX4:=zH hx4;have MKS:=zH mkS;have HRX:=zH hRX
 clear hx4 mkS hRX
 obtain ⟨lg,hlg⟩:=HG.out
 have HA4:=zH (step_small hlg ⟨2,n,0,o⟩)
 refine wp_region_lex (fun W=>W.cell? ⟨b,2,none⟩=some (.pointer (some ⟨bg,0,none⟩))∧BlockAt W qx 86 [zI zi 2,zI zi n,zI zi 0,zI zi o.kind,zI zi o.now,zI zi o.job,zI zi o.tr,zI zi o.wk,zI zi o.tm]∧W.cell? ⟨qx,0,none⟩=some (zI zi 2)∧W.cell? ⟨qo,0,none⟩=some (zI zi o.kind)) [6,15] (by kernel_rfl) (by kernel_rfl) (MKS.out _ _ _ _ HX4.out) ?_
 repeat (first|(refine LexL.none (by rfl) ?_;(try simp only [zP,zA,zB,zC]))|(refine LexL.still (v:=?_) (by rfl) ?_ ?_;rotate_left;(focus (intro W hW;(try dsimp only at hW);go_simp;(try (with_reducible rfl));done));(try simp only [zP,zA,zB,zC])))
 refine LexL.still (v:=.agg #[zI zi 2,zI zi n,zI zi 0,zI zi o.kind,zI zi o.now,zI zi o.job,zI zi o.tr,zI zi o.wk,zI zi o.tm]) (by rfl) (fun W hW=>exec_load_part 86 _ rfl qx 0 rfl [zI zi 2,zI zi n,zI zi 0,zI zi o.kind,zI zi o.now,zI zi o.job,zI zi o.tr,zI zi o.wk,zI zi o.tm] hW.2.1 rfl Tryz.underlying86 rfl (by kernel_rfl)) ?_
 try simp only [zP,zA,zB,zC]
 refine LexL.call (f:=44) (args:=#[.pointer (some ⟨bg,0,none⟩),.agg #[zI zi 2,zI zi n,zI zi 0,zI zi o.kind,zI zi o.now,zI zi o.job,zI zi o.tr,zI zi o.wk,zI zi o.tm]]) (w1:=W3.drew) (by rfl) (by decide) (by go_simp) ?_
 refine (gstep_sl bg g 2 n 0 o.kind o.now o.job o.tr o.wk o.tm _ HX4.out HG.out).mono ?_
 rintro e W5 ⟨rfl,q5,h5⟩
 have H5':=zH (show Holds W5 (gld bg (g.step ⟨2,n,0,o⟩).1*_) from h5);have Q5':=zH (Q3.out.drew.trans q5)
 clear h5 q5
 refine ⟨_,rfl,MKS.out _ _ _ _ H5'.out,?_⟩
 try simp only [zP,zA,zB,zC]
 repeat (first|(refine LexL.none (by rfl) ?_;(try simp only [zP,zA,zB,zC]))|(refine LexL.still (v:=?_) (by rfl) ?_ ?_;rotate_left;(focus (intro W hW;(try dsimp only at hW);go_simp;(try (with_reducible rfl));done));(try simp only [zP,zA,zB,zC])))
 refine LexL.call (f:=43) (args:=#[.pointer (some ⟨b,0,none⟩),(g.step ⟨2,n,0,o⟩).2.val,.bool (decide (o.kind=2))]) (w1:=W5) (by rfl) (by decide) (by go_simp;rfl) ?_
 refine (answer_sl b bg told (g.step ⟨2,n,0,o⟩).2 (decide (o.kind=2)) W5 (H5'.out.two.eq (by ac_rfl:_=kst b bg told*(lay w0*(gld bg (g.step ⟨2,n,0,o⟩).1*(RX*(wds (.slice (some ⟨gl,0,none⟩) (r.length+1) cl) (w1::r)*R)))))) HA4.out (by omega)).mono ?_
 rintro e W6 ⟨rfl,q6,h6⟩
 have H6:=zH (h6.eq (by ac_rfl:_=RX*(kst b bg (told++line (ansTxt (g.step ⟨2,n,0,o⟩).2 (decide (o.kind=2))))*(gld bg (g.step ⟨2,n,0,o⟩).1*(wds (.slice (some ⟨gl,0,none⟩) (r.length+1) cl) (w1::r)*(lay w0*R))))))
 have Q6:=zH (Q5'.out.trans q6)
 refine ⟨_,rfl,MKS.out _ _ (gld bg (g.step ⟨2,n,0,o⟩).1) _ (H6.out.eq (by ac_rfl:_=gld bg (g.step ⟨2,n,0,o⟩).1*(kst b bg (told++line (ansTxt (g.step ⟨2,n,0,o⟩).2 (decide (o.kind=2))))*(lay w0*(RX*(wds (.slice (some ⟨gl,0,none⟩) (r.length+1) cl) (w1::r)*R)))))),?_⟩
 clear h6 q6
 try simp only [zP,zA,zB,zC]
 refine LexL.done ?_
 go_wp2
 go_ret
 exact ⟨rfl,Q6.out,H6.out.right⟩
end Go.Proofs.YtfihmpkkpgmdhaaGreatDoor
end
