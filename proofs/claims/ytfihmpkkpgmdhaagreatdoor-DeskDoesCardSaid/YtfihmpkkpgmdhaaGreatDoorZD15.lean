/-
  What the proof of DeskDoes leans on: definitions, laws, contracts of functions. No condition besides those that each theorem names.
-/
import Derived.Test.YtfihmpkkpgmdhaaGreatDoorZD14
import Derived.Test.YtfihmpkkpgmdhaaGreatDoorZD04
import Derived.Lib.MinMax
set_option maxRecDepth 100000
set_option maxHeartbeats 16000000
set_option linter.unusedVariables false
set_option linter.unusedSimpArgs false
set_option linter.unnecessarySimpa false
namespace Go.Proofs.YtfihmpkkpgmdhaaGreatDoor
open Go.RowKit
open List renaming setIfInBounds_toArray → zA, set_cons_zero → zB, set_cons_succ → zC
open Go.Act renaming put → zP
open Go.Lib renaming hid → zH
open Go.Value renaming int → zI
open Go.IntKind renaming i64 → zi
def OrdPost (w:World) (bn bt bd:Nat) (t:Tbl) (R:HP) (x:Dsk×Nod×Ans) (e:Ending) (w':World):Prop:=
 e=.returned x.2.2.val∧Quiet w w' ∧
  (x.2.2.code≠0∧x.2.1.t=t∧Holds w' (nblk bn bt bd x.2.1*(tab bt t*(dsk bd x.1*R))) ∨
   x.2.2.code=0∧∃ bt':Nat,Holds w' (nblk bn bt' bd x.2.1*(tab bt' x.2.1.t*(tab bt t*(dsk bd x.1*R)))))
def ncells (bt bd:Nat) (n:Nod):List Value:=[.pointer (some ⟨bt,0,none⟩),.pointer (some ⟨bd,0,none⟩),zI zi n.ep,.bool n.down]
theorem norder_down (bn bt bd:Nat) (d:Dsk) (t:Tbl) (ep c nw j r k m kp:Int) (w:World) {R:HP} (h:Holds w (nblk bn bt bd ⟨t,ep,true⟩*(tab bt t*(dsk bd d*R))))  :
  Calls Tryz.prog 123 #[.pointer (some ⟨bn,0,none⟩),.agg #[zI zi c,zI zi nw,zI zi j,zI zi r,zI zi k,zI zi m],zI zi kp] w (OrdPost w bn bt bd t R (d,⟨t,ep,true⟩,⟨10,0,0⟩)):=by
 obtain ⟨w0,hw0,H0,Q0⟩:∃ w0,(w.alloc (.cells #[zI zi c,zI zi nw,zI zi j,zI zi r,zI zi k,zI zi m] 84)).alloc (.cells #[zI zi 0,zI zi 0,zI zi 0] 88)=w0∧Hid (Holds w0 (bl (w.heap.size+1) 88 [zI zi 0,zI zi 0,zI zi 0]*(bl w.heap.size 84 [zI zi c,zI zi nw,zI zi j,zI zi r,zI zi k,zI zi m]*(nblk bn bt bd ⟨t,ep,true⟩*(tab bt t*(dsk bd d*R))))))∧Hid (Quiet w w0):=
  ⟨_,rfl,zH ((h.boxB (ty:=84) (cs:=[zI zi c,zI zi nw,zI zi j,zI zi r,zI zi k,zI zi m]) rfl).boxB (ty:=88) (cs:=[zI zi 0,zI zi 0,zI zi 0]) (g:=w.heap.size+1) (by simp)),zH (((Quiet.refl w).alloc _).alloc _)⟩
 clear h
 obtain ⟨g0,hg0⟩:∃ g0,w.heap.size=g0:=⟨_,rfl⟩
 rw [hg0] at H0
 obtain ⟨ga,hga⟩:∃ ga,g0+1=ga:=⟨_,rfl⟩
 rw [hga] at H0
 have cn:=(show BlockAt w0 bn 119 (ncells bt bd ⟨t,ep,true⟩) from H0.out.three.bl).cells
 simp only [ncells] at cn
 have ca:=H0.out.bl.cells
 have fa:=H0.out.bl.frees
 have la:=H0.out.bl.lt
 go_enter Tryz.func123,Tryz.ntmps123
 go_wp2
 have hf:=((H0.out.setB 0 (zI zi 10)).setB 1 (zI zi 0)).setB 2 (zI zi 0)
 have hl:=run_load_part (P:=Tryz.prog) (off:=0) (ty:=88) (vs:=[zI zi 10,zI zi 0,zI zi 0]) hf.bl rfl Tryz.underlying88 rfl (by kernel_rfl)
 exact bodyPost_ret (results_cell1 rfl rfl hl) rfl ⟨rfl,((Q0.out.setCell _ _).setCell _ _).setCell _ _,.inl ⟨by simp,rfl,hf.right.right⟩⟩
theorem norder_fenced (bn bt bd:Nat) (d:Dsk) (t:Tbl) (ep c nw j r k m kp:Int) (w:World) {R:HP} (h:Holds w (nblk bn bt bd ⟨t,ep,false⟩*(tab bt t*(dsk bd d*R)))) (hne:ep≠d.ep) :
  Calls Tryz.prog 123 #[.pointer (some ⟨bn,0,none⟩),.agg #[zI zi c,zI zi nw,zI zi j,zI zi r,zI zi k,zI zi m],zI zi kp] w (OrdPost w bn bt bd t R (d,⟨t,ep,true⟩,⟨9,0,0⟩)):=by
 have hne1:(ep != d.ep)=true:=by simpa using hne
 clear hne
 obtain ⟨w0,hw0,H0,Q0⟩:∃ w0,(w.alloc (.cells #[zI zi c,zI zi nw,zI zi j,zI zi r,zI zi k,zI zi m] 84)).alloc (.cells #[zI zi 0,zI zi 0,zI zi 0] 88)=w0∧Hid (Holds w0 (bl (w.heap.size+1) 88 [zI zi 0,zI zi 0,zI zi 0]*(bl w.heap.size 84 [zI zi c,zI zi nw,zI zi j,zI zi r,zI zi k,zI zi m]*(nblk bn bt bd ⟨t,ep,false⟩*(tab bt t*(dsk bd d*R))))))∧Hid (Quiet w w0):=
  ⟨_,rfl,zH ((h.boxB (ty:=84) (cs:=[zI zi c,zI zi nw,zI zi j,zI zi r,zI zi k,zI zi m]) rfl).boxB (ty:=88) (cs:=[zI zi 0,zI zi 0,zI zi 0]) (g:=w.heap.size+1) (by simp)),zH (((Quiet.refl w).alloc _).alloc _)⟩
 clear h
 obtain ⟨g0,hg0⟩:∃ g0,w.heap.size=g0:=⟨_,rfl⟩
 rw [hg0] at H0
 obtain ⟨ga,hga⟩:∃ ga,g0+1=ga:=⟨_,rfl⟩
 rw [hga] at H0
 have cn:=(show BlockAt w0 bn 119 (ncells bt bd ⟨t,ep,false⟩) from H0.out.three.bl).cells
 simp only [ncells] at cn
 go_enter Tryz.func123,Tryz.ntmps123
 go_wp2_with fail
 clear hw0 hg0 hga
 refine wp_region_lex (fun W=>∀ o,W.cell? ⟨bn,o,none⟩=[.pointer (some ⟨bt,0,none⟩),.pointer (some ⟨bd,0,none⟩),zI zi ep,.bool false][o]?) [8] (by kernel_rfl) (by kernel_rfl) cn ?_
 repeat (first|(refine LexL.none (by rfl) ?_;(try simp only [zP,zA,zB,zC]))|(refine LexL.still (v:=?_) (by rfl) ?_ ?_;rotate_left;(focus (intro W hW;(try dsimp only at hW);go_simp;(try (with_reducible rfl));done));(try simp only [zP,zA,zB,zC])))
 refine LexL.call (f:=51) (args:=#[.pointer (some ⟨bd,0,none⟩)]) (w1:=w0.drew) (by rfl) (by decide) (by go_simp) ?_
 refine (depoch_sl bd d _ (H0.out.drew.eq (by ac_rfl:_=dsk bd d*(bl ga 88 [zI zi 0,zI zi 0,zI zi 0]*(bl g0 84 [zI zi c,zI zi nw,zI zi j,zI zi r,zI zi k,zI zi m]*(nblk bn bt bd ⟨t,ep,false⟩*(tab bt t*R))))))).mono ?_
 rintro e w1 ⟨rfl,rfl⟩
 refine ⟨_,rfl,cn,?_⟩
 try simp only [zP,zA,zB,zC]
 repeat (first|(refine LexL.none (by rfl) ?_;(try simp only [zP,zA,zB,zC]))|(refine LexL.still (v:=?_) (by rfl) ?_ ?_;rotate_left;(focus (intro W hW;(try dsimp only at hW);go_simp;(try (with_reducible rfl));done));(try simp only [zP,zA,zB,zC])))
 refine LexL.done ?_
 have hd1:=H0.out.drew
 have qd1:=Q0.out.drew
 obtain ⟨w1,hw1⟩:∃ w1,w0.drew=w1:=⟨_,rfl⟩
 rw [hw1] at hd1 qd1 ⊢
 have H1:=zH hd1;have Q1:=zH qd1
 clear hw1 hd1 qd1 cn H0 Q0
 have cn:=(show BlockAt w1 bn 119 (ncells bt bd ⟨t,ep,false⟩) from H1.out.three.bl).cells
 simp only [ncells] at cn
 have fn:=(show BlockAt w1 bn 119 (ncells bt bd ⟨t,ep,false⟩) from H1.out.three.bl).frees
 have ln:=(show BlockAt w1 bn 119 (ncells bt bd ⟨t,ep,false⟩) from H1.out.three.bl).lt
 have ca:=H1.out.bl.cells
 have fa:=H1.out.bl.frees
 have la:=H1.out.bl.lt
 go_wp2
 have hf:=(((H1.out.three.setB 3 (.bool true)).two.setB 0 (zI zi 9)).setB 1 (zI zi 0)).setB 2 (zI zi 0)
 have hl:=run_load_part (P:=Tryz.prog) (off:=0) (ty:=88) (vs:=[zI zi 9,zI zi 0,zI zi 0]) hf.bl rfl Tryz.underlying88 rfl (by kernel_rfl)
 exact bodyPost_ret (results_cell1 rfl rfl hl) rfl ⟨rfl,(((Q1.out.setCell _ _).setCell _ _).setCell _ _).setCell _ _,.inl ⟨by simp,rfl,hf.right.two.right⟩⟩
theorem norder_refused (bn bt bd:Nat) (d:Dsk) (t:Tbl) (ep c nw j r k m kp:Int) (w:World) {R:HP} (h:Holds w (nblk bn bt bd ⟨t,ep,false⟩*(tab bt t*(dsk bd d*R)))) (hok:t.Ok) (he:ep=d.ep) (hcd:(t.did ⟨c,nw,j,r,k,m⟩).2.code≠0) :
  Calls Tryz.prog 123 #[.pointer (some ⟨bn,0,none⟩),.agg #[zI zi c,zI zi nw,zI zi j,zI zi r,zI zi k,zI zi m],zI zi kp] w (OrdPost w bn bt bd t R (d,⟨t,ep,false⟩,(t.did ⟨c,nw,j,r,k,m⟩).2)):=by
 obtain ⟨⟨T',⟨a1,a2,a3⟩⟩,hX⟩:∃ X,t.did ⟨c,nw,j,r,k,m⟩=X:=⟨_,rfl⟩
 rw [hX] at hcd ⊢
 dsimp only at hcd
 have hcd1:(a1 != 0)=true:=by simpa using hcd
 have hee:(ep != d.ep)=false:=by simpa using he
 have HX:=zH hX;have HOK:=zH hok;have HCD:=zH hcd;clear hX hok hcd he
 obtain ⟨w0,hw0,H0,Q0⟩:∃ w0,(w.alloc (.cells #[zI zi c,zI zi nw,zI zi j,zI zi r,zI zi k,zI zi m] 84)).alloc (.cells #[zI zi 0,zI zi 0,zI zi 0] 88)=w0∧Hid (Holds w0 (bl (w.heap.size+1) 88 [zI zi 0,zI zi 0,zI zi 0]*(bl w.heap.size 84 [zI zi c,zI zi nw,zI zi j,zI zi r,zI zi k,zI zi m]*(nblk bn bt bd ⟨t,ep,false⟩*(tab bt t*(dsk bd d*R))))))∧Hid (Quiet w w0):=
  ⟨_,rfl,zH ((h.boxB (ty:=84) (cs:=[zI zi c,zI zi nw,zI zi j,zI zi r,zI zi k,zI zi m]) rfl).boxB (ty:=88) (cs:=[zI zi 0,zI zi 0,zI zi 0]) (g:=w.heap.size+1) (by simp)),zH (((Quiet.refl w).alloc _).alloc _)⟩
 clear h
 obtain ⟨g0,hg0⟩:∃ g0,w.heap.size=g0:=⟨_,rfl⟩
 rw [hg0] at H0
 obtain ⟨ga,hga⟩:∃ ga,g0+1=ga:=⟨_,rfl⟩
 rw [hga] at H0
 have cn:=(show BlockAt w0 bn 119 (ncells bt bd ⟨t,ep,false⟩) from H0.out.three.bl).cells
 simp only [ncells] at cn
 go_enter Tryz.func123,Tryz.ntmps123
 go_wp2_with fail
 clear hw0 hg0 hga
 refine wp_region_lex (fun W=>∀ o,W.cell? ⟨bn,o,none⟩=[.pointer (some ⟨bt,0,none⟩),.pointer (some ⟨bd,0,none⟩),zI zi ep,.bool false][o]?) [8] (by kernel_rfl) (by kernel_rfl) cn ?_
 repeat (first|(refine LexL.none (by rfl) ?_;(try simp only [zP,zA,zB,zC]))|(refine LexL.still (v:=?_) (by rfl) ?_ ?_;rotate_left;(focus (intro W hW;(try dsimp only at hW);go_simp;(try (with_reducible rfl));done));(try simp only [zP,zA,zB,zC])))
 refine LexL.call (f:=51) (args:=#[.pointer (some ⟨bd,0,none⟩)]) (w1:=w0.drew) (by rfl) (by decide) (by go_simp) ?_
 refine (depoch_sl bd d _ (H0.out.drew.eq (by ac_rfl:_=dsk bd d*(bl ga 88 [zI zi 0,zI zi 0,zI zi 0]*(bl g0 84 [zI zi c,zI zi nw,zI zi j,zI zi r,zI zi k,zI zi m]*(nblk bn bt bd ⟨t,ep,false⟩*(tab bt t*R))))))).mono ?_
 rintro e w1 ⟨rfl,rfl⟩
 refine ⟨_,rfl,cn,?_⟩
 try simp only [zP,zA,zB,zC]
 repeat (first|(refine LexL.none (by rfl) ?_;(try simp only [zP,zA,zB,zC]))|(refine LexL.still (v:=?_) (by rfl) ?_ ?_;rotate_left;(focus (intro W hW;(try dsimp only at hW);go_simp;(try (with_reducible rfl));done));(try simp only [zP,zA,zB,zC])))
 refine LexL.done ?_
 have hd1:=H0.out.drew
 have qd1:=Q0.out.drew
 obtain ⟨w1,hw1⟩:∃ w1,w0.drew=w1:=⟨_,rfl⟩
 rw [hw1] at hd1 qd1 ⊢
 have H1:=zH hd1;have Q1:=zH qd1
 clear hw1 hd1 qd1 cn H0 Q0
 have cn:=(show BlockAt w1 bn 119 (ncells bt bd ⟨t,ep,false⟩) from H1.out.three.bl).cells
 simp only [ncells] at cn
 go_wp2_with fail
 refine (own_sl bt t _ (H1.out.eq (by ac_rfl:_=tab bt t*(bl ga 88 [zI zi 0,zI zi 0,zI zi 0]*(bl g0 84 [zI zi c,zI zi nw,zI zi j,zI zi r,zI zi k,zI zi m]*(nblk bn bt bd ⟨t,ep,false⟩*(dsk bd d*R))))))).mono ?_
 rintro e w2 ⟨bt',rfl,q2,h2⟩
 have H2:=zH h2;have Q2:=zH (Q1.out.trans q2);clear h2 q2 H1 Q1
 go_wp2_with (refine wpList_load_whole rfl 84 _ rfl g0 rfl [zI zi c,zI zi nw,zI zi j,zI zi r,zI zi k,zI zi m] (H2.out.right.three.bl) Tryz.underlying84 rfl (by kernel_rfl) ?_)
 refine (do_sl bt' t c nw j r k m _ H2.out HOK.out).mono ?_
 rw [HX.out]
 rintro e w3 ⟨rfl,q3,h3⟩
 have h4:=h3.boxB (ty:=88) (cs:=[zI zi a1,zI zi a2,zI zi a3]) rfl
 have q4:=(Q2.out.trans q3).alloc (.cells ([zI zi a1,zI zi a2,zI zi a3]:List Value).toArray 88)
 obtain ⟨w4,hw4⟩:∃ w4,w3.alloc (.cells #[zI zi a1,zI zi a2,zI zi a3] 88)=w4:=⟨_,rfl⟩
 obtain ⟨gx,hgx⟩:∃ gx,w3.heap.size=gx:=⟨_,rfl⟩
 have h4':Holds w4 (bl gx 88 [zI zi a1,zI zi a2,zI zi a3]*(tab bt' T'*(tab bt t*(bl ga 88 [zI zi 0,zI zi 0,zI zi 0]*(bl g0 84 [zI zi c,zI zi nw,zI zi j,zI zi r,zI zi k,zI zi m]*(nblk bn bt bd ⟨t,ep,false⟩*(dsk bd d*R))))))):=by rw [←hw4,←hgx];exact h4
 have q4':Quiet w w4:=by rw [←hw4];exact q4
 have H4:=zH h4';have Q4:=zH q4'
 have cx:=H4.out.bl.cells
 clear h3 q3 h4 q4 h4' q4' H2 Q2 cn
 have ca:=H4.out.four.bl.cells
 have fa:=H4.out.four.bl.frees
 have la:=H4.out.four.bl.lt
 go_wp2
 have hf:=((H4.out.four.setB 0 (zI zi a1)).setB 1 (zI zi a2)).setB 2 (zI zi a3)
 have hl:=run_load_part (P:=Tryz.prog) (off:=0) (ty:=88) (vs:=[zI zi a1,zI zi a2,zI zi a3]) hf.bl rfl Tryz.underlying88 rfl (by kernel_rfl)
 exact bodyPost_ret (results_cell1 rfl rfl hl) rfl ⟨rfl,((Q4.out.setCell _ _).setCell _ _).setCell _ _,.inl ⟨HCD.out,rfl,((hf.right.right.right.eq (by ac_rfl:_=bl g0 84 [zI zi c,zI zi nw,zI zi j,zI zi r,zI zi k,zI zi m]*(nblk bn bt bd ⟨t,ep,false⟩*(tab bt t*(dsk bd d*R))))).right)⟩⟩
theorem norder_wrote (bn bt bd : Nat) (d : Dsk) (t : Tbl) (ep c nw j r k m kp : Int) (w : World) {R : HP} (h : Holds w (nblk bn bt bd ⟨t, ep, false⟩ * (tab bt t * (dsk bd d * R)))) (hd : d.Ok) (hok : t.Ok) (he : ep = d.ep) (hcd : (t.did ⟨c, nw, j, r, k, m⟩).2.code = 0) (hr : chkR ⟨ep, ⟨c, nw, j, r, k, m⟩⟩ = 0) :
    Calls Tryz.prog 123 #[.pointer (some ⟨bn, 0, none⟩), .agg #[zI zi c, zI zi nw, zI zi j, zI zi r, zI zi k, zI zi m], zI zi kp] w (OrdPost w bn bt bd t R (if (d.append ep ((encB ⟨ep, ⟨c, nw, j, r, k, m⟩⟩).take (keepN kp))).2 ≠ 0 then (d, ⟨t, ep, false⟩, ⟨(d.append ep ((encB ⟨ep, ⟨c, nw, j, r, k, m⟩⟩).take (keepN kp))).2, 0, 0⟩) else ((d.append ep ((encB ⟨ep, ⟨c, nw, j, r, k, m⟩⟩).take (keepN kp))).1, ⟨(t.did ⟨c, nw, j, r, k, m⟩).1, ep, false⟩, (t.did ⟨c, nw, j, r, k, m⟩).2))) := by
  obtain ⟨⟨T', ⟨a1, a2, a3⟩⟩, hX⟩ : ∃ X, t.did ⟨c, nw, j, r, k, m⟩ = X := ⟨_, rfl⟩
  rw [hX] at hcd ⊢
  dsimp only at hcd
  have hcd1 : (a1 != 0) = false := by simpa using hcd
  have hee : (ep != d.ep) = false := by simpa using he
  obtain ⟨l, hl⟩ : ∃ l, encB ⟨ep, ⟨c, nw, j, r, k, m⟩⟩ = l := ⟨_, rfl⟩
  have hl9 : l.length = 9 := by rw [← hl, encB_len]
  obtain ⟨⟨d', ac⟩, hap⟩ : ∃ Y, d.append ep (l.take (keepN kp)) = Y := ⟨_, rfl⟩
  rw [hl, hap]
  obtain ⟨K, hK⟩ : ∃ K, keepN kp = K := ⟨_, rfl⟩
  rw [hK] at hap
  have hK0 : min (max kp 0) 9 = (K : Int) := by rw [← hK]; unfold keepN; omega
  have hK9 : K ≤ 9 := by rw [← hK]; unfold keepN; omega
  clear hK
  obtain ⟨Y, hY⟩ : ∃ Y, (if (d', ac).2 ≠ 0 then (d, (⟨t, ep, false⟩ : Nod), (⟨(d', ac).2, 0, 0⟩ : Ans)) else ((d', ac).1, ⟨T', ep, false⟩, ⟨a1, a2, a3⟩)) = Y := ⟨_, rfl⟩
  rw [hY]
  dsimp only at hY
  have HY := zH hY; clear hY
  have HX := zH hX; have HOK := zH hok; have HCD := zH hcd; have HR := zH hr; have HL := zH hl; have HL9 := zH hl9; have HAP := zH hap; have HD := zH hd
  clear hX hok hcd he hr hl hl9 hap hd
  obtain ⟨w0, hw0, H0, Q0⟩ : ∃ w0, (w.alloc (.cells #[zI zi c, zI zi nw, zI zi j, zI zi r, zI zi k, zI zi m] 84)).alloc (.cells #[zI zi 0, zI zi 0, zI zi 0] 88) = w0 ∧ Hid (Holds w0 (bl (w.heap.size + 1) 88 [zI zi 0, zI zi 0, zI zi 0] * (bl w.heap.size 84 [zI zi c, zI zi nw, zI zi j, zI zi r, zI zi k, zI zi m] * (nblk bn bt bd ⟨t, ep, false⟩ * (tab bt t * (dsk bd d * R)))))) ∧ Hid (Quiet w w0) :=
    ⟨_, rfl, zH ((h.boxB (ty := 84) (cs := [zI zi c, zI zi nw, zI zi j, zI zi r, zI zi k, zI zi m]) rfl).boxB (ty := 88) (cs := [zI zi 0, zI zi 0, zI zi 0]) (g := w.heap.size + 1) (by simp)), zH (((Quiet.refl w).alloc _).alloc _)⟩
  clear h
  obtain ⟨g0, hg0⟩ : ∃ g0, w.heap.size = g0 := ⟨_, rfl⟩
  rw [hg0] at H0
  obtain ⟨ga, hga⟩ : ∃ ga, g0 + 1 = ga := ⟨_, rfl⟩
  rw [hga] at H0
  have cn := (show BlockAt w0 bn 119 (ncells bt bd ⟨t, ep, false⟩) from H0.out.three.bl).cells
  simp only [ncells] at cn
  go_enter Tryz.func123, Tryz.ntmps123
  go_wp2_with fail
  clear hw0 hg0 hga
  refine wp_region_lex (fun W => ∀ o, W.cell? ⟨bn, o, none⟩ = [.pointer (some ⟨bt, 0, none⟩), .pointer (some ⟨bd, 0, none⟩), zI zi ep, .bool false][o]?) [8] (by kernel_rfl) (by kernel_rfl) cn ?_
  repeat (first | (refine LexL.none (by rfl) ?_; (try simp only [zP, zA, zB, zC])) | (refine LexL.still (v := ?_) (by rfl) ?_ ?_; rotate_left; (focus (intro W hW; (try dsimp only at hW); go_simp; (try (with_reducible rfl)); done)); (try simp only [zP, zA, zB, zC])))
  refine LexL.call (f := 51) (args := #[.pointer (some ⟨bd, 0, none⟩)]) (w1 := w0.drew) (by rfl) (by decide) (by go_simp) ?_
  refine (depoch_sl bd d _ (H0.out.drew.eq (by ac_rfl : _ = dsk bd d * (bl ga 88 [zI zi 0, zI zi 0, zI zi 0] * (bl g0 84 [zI zi c, zI zi nw, zI zi j, zI zi r, zI zi k, zI zi m] * (nblk bn bt bd ⟨t, ep, false⟩ * (tab bt t * R))))))).mono ?_
  rintro e w1 ⟨rfl, rfl⟩
  refine ⟨_, rfl, cn, ?_⟩
  try simp only [zP, zA, zB, zC]
  repeat (first | (refine LexL.none (by rfl) ?_; (try simp only [zP, zA, zB, zC])) | (refine LexL.still (v := ?_) (by rfl) ?_ ?_; rotate_left; (focus (intro W hW; (try dsimp only at hW); go_simp; (try (with_reducible rfl)); done)); (try simp only [zP, zA, zB, zC])))
  refine LexL.done ?_
  have hd1 := H0.out.drew
  have qd1 := Q0.out.drew
  obtain ⟨w1, hw1⟩ : ∃ w1, w0.drew = w1 := ⟨_, rfl⟩
  rw [hw1] at hd1 qd1 ⊢
  have H1 := zH hd1; have Q1 := zH qd1
  clear hw1 hd1 qd1 cn H0 Q0
  have cn := (show BlockAt w1 bn 119 (ncells bt bd ⟨t, ep, false⟩) from H1.out.three.bl).cells
  simp only [ncells] at cn
  go_wp2_with fail
  refine (own_sl bt t _ (H1.out.eq (by ac_rfl : _ = tab bt t * (bl ga 88 [zI zi 0, zI zi 0, zI zi 0] * (bl g0 84 [zI zi c, zI zi nw, zI zi j, zI zi r, zI zi k, zI zi m] * (nblk bn bt bd ⟨t, ep, false⟩ * (dsk bd d * R))))))).mono ?_
  rintro e w2 ⟨bt', rfl, q2, h2⟩
  have H2 := zH h2; have Q2 := zH (Q1.out.trans q2); clear h2 q2 H1 Q1
  go_wp2_with (refine wpList_load_whole rfl 84 _ rfl g0 rfl [zI zi c, zI zi nw, zI zi j, zI zi r, zI zi k, zI zi m] (H2.out.right.three.bl) Tryz.underlying84 rfl (by kernel_rfl) ?_)
  refine (do_sl bt' t c nw j r k m _ H2.out HOK.out).mono ?_
  rw [HX.out]
  rintro e w3 ⟨rfl, q3, h3⟩
  have h4 := h3.boxB (ty := 88) (cs := [zI zi a1, zI zi a2, zI zi a3]) rfl
  have q4 := (Q2.out.trans q3).alloc (.cells ([zI zi a1, zI zi a2, zI zi a3] : List Value).toArray 88)
  obtain ⟨w4, hw4⟩ : ∃ w4, w3.alloc (.cells #[zI zi a1, zI zi a2, zI zi a3] 88) = w4 := ⟨_, rfl⟩
  obtain ⟨gx, hgx⟩ : ∃ gx, w3.heap.size = gx := ⟨_, rfl⟩
  have h4' : Holds w4 (bl gx 88 [zI zi a1, zI zi a2, zI zi a3] * (tab bt' T' * (tab bt t * (bl ga 88 [zI zi 0, zI zi 0, zI zi 0] * (bl g0 84 [zI zi c, zI zi nw, zI zi j, zI zi r, zI zi k, zI zi m] * (nblk bn bt bd ⟨t, ep, false⟩ * (dsk bd d * R))))))) := by rw [← hw4, ← hgx]; exact h4
  have q4' : Quiet w w4 := by rw [← hw4]; exact q4
  have H4 := zH h4'; have Q4 := zH q4'
  have cx := H4.out.bl.cells
  clear h3 q3 h4 q4 h4' q4' H2 Q2 cn
  go_wp2_with fail
  clear hw4 hgx
  have cn : ∀ o, w4.cell? ⟨bn, o, none⟩ = [.pointer (some ⟨bt, 0, none⟩), .pointer (some ⟨bd, 0, none⟩), zI zi ep, .bool false][o]? := (show BlockAt w4 bn 119 (ncells bt bd ⟨t, ep, false⟩) from H4.out.right.right.right.right.right.bl).cells
  have co := H4.out.right.right.right.right.bl.cells
  refine wp_region_lex (fun W => (∀ o, W.cell? ⟨bn, o, none⟩ = [.pointer (some ⟨bt, 0, none⟩), .pointer (some ⟨bd, 0, none⟩), zI zi ep, .bool false][o]?) ∧ ∀ o, W.cell? ⟨g0, o, none⟩ = [zI zi c, zI zi nw, zI zi j, zI zi r, zI zi k, zI zi m][o]?) [6] (by kernel_rfl) (by kernel_rfl) ⟨cn, co⟩ ?_
  repeat (first | (refine LexL.none (by rfl) ?_; (try simp only [zP, zA, zB, zC])) | (refine LexL.still (v := ?_) (by rfl) ?_ ?_; rotate_left; (focus (intro W hW; (try dsimp only at hW); go_simp; (try (with_reducible rfl)); done)); (try simp only [zP, zA, zB, zC])))
  refine LexL.call (f := 136) (args := #[.agg #[zI zi ep, zI zi c, zI zi nw, zI zi j, zI zi r, zI zi k, zI zi m]]) (w1 := w4.drew) (by rfl) (by decide) (by go_simp) ?_
  refine (enc_sl ep c nw j r k m _ H4.out.drew).mono ?_
  rw [HR.out, if_pos rfl, HL.out]
  rintro e w5 ⟨v, rfl, q5, h5⟩
  obtain ⟨av, cv, rfl, hv1, hv2⟩ := h5.ownb.bytes.shape
  rw [HL9.out] at h5 hv1 ⊢
  have hKc : K ≤ cv := by omega
  have cn5 : ∀ o, w5.cell? ⟨bn, o, none⟩ = [.pointer (some ⟨bt, 0, none⟩), .pointer (some ⟨bd, 0, none⟩), zI zi ep, .bool false][o]? := (show BlockAt w5 bn 119 (ncells bt bd ⟨t, ep, false⟩) from h5.right.right.right.right.right.right.bl).cells
  have H5 := zH h5; have Q5 := zH (Q4.out.drew.trans q5)
  refine ⟨_, rfl, ⟨cn5, h5.right.right.right.right.right.bl.cells⟩, ?_⟩
  clear h5 q5 cn co H4 Q4 cx
  try simp only [zP, zA, zB, zC]
  repeat (first | (refine LexL.none (by rfl) ?_; (try simp only [zP, zA, zB, zC])) | (refine LexL.still (v := ?_) (by rfl) ?_ ?_; rotate_left; (focus (intro W hW; (try dsimp only at hW); go_simp; (try (with_reducible rfl)); done)); (try simp only [zP, zA, zB, zC])))
  refine LexL.done ?_
  go_wp2_with fail
  refine wp_region_lex (fun W => ∀ o, W.cell? ⟨bn, o, none⟩ = [.pointer (some ⟨bt, 0, none⟩), .pointer (some ⟨bd, 0, none⟩), zI zi ep, .bool false][o]?) [15] (by kernel_rfl) (by kernel_rfl) cn5 ?_
  repeat (first | (refine LexL.none (by rfl) ?_; (try simp only [zP, zA, zB, zC])) | (refine LexL.still (v := ?_) (by rfl) ?_ ?_; rotate_left; (focus (intro W hW; (try dsimp only at hW); go_simp; (try (with_reducible rfl)); done)); (try simp only [zP, zA, zB, zC])))
  refine LexL.call (f := 137) (args := #[.pointer (some ⟨bd, 0, none⟩), zI zi ep, .slice av K cv]) (w1 := w5.drew) (by rfl) (by decide) (by go_simp) ?_
  refine (append_sl bd d ep _ (l.take K) _ (H5.out.drew.eq (by ac_rfl : _ = dsk bd d * (ownb (.slice av 9 cv) l * (bl gx 88 [zI zi a1, zI zi a2, zI zi a3] * (tab bt' T' * (tab bt t * (bl ga 88 [zI zi 0, zI zi 0, zI zi 0] * (bl g0 84 [zI zi c, zI zi nw, zI zi j, zI zi r, zI zi k, zI zi m] * (nblk bn bt bd ⟨t, ep, false⟩ * R))))))))) HD.out (H5.out.drew.ownb.bytes.take (by rw [HL9.out]; exact hK9)) (by simp [HL9.out]; omega)).mono ?_
  rw [HAP.out]
  rintro e w6 ⟨rfl, q6, h6⟩
  have h6' : Holds w6 (bl ga 88 [zI zi 0, zI zi 0, zI zi 0] * (nblk bn bt bd ⟨t, ep, false⟩ * (bl gx 88 [zI zi a1, zI zi a2, zI zi a3] * (tab bt' T' * (tab bt t * (dsk bd d' * R)))))) := (h6.eq (by ac_rfl : _ = ownb (.slice av 9 cv) l * (bl g0 84 [zI zi c, zI zi nw, zI zi j, zI zi r, zI zi k, zI zi m] * (bl ga 88 [zI zi 0, zI zi 0, zI zi 0] * (nblk bn bt bd ⟨t, ep, false⟩ * (bl gx 88 [zI zi a1, zI zi a2, zI zi a3] * (tab bt' T' * (tab bt t * (dsk bd d' * R))))))))).right.right
  have H6 := zH h6'; have Q6 := zH (Q5.out.drew.trans q6)
  clear h6 h6' q6 H5 Q5 cn5 hK0 hKc hv1 hv2
  have cn : ∀ o, w6.cell? ⟨bn, o, none⟩ = [.pointer (some ⟨bt, 0, none⟩), .pointer (some ⟨bd, 0, none⟩), zI zi ep, .bool false][o]? := (show BlockAt w6 bn 119 (ncells bt bd ⟨t, ep, false⟩) from H6.out.right.bl).cells
  have fn := (show BlockAt w6 bn 119 (ncells bt bd ⟨t, ep, false⟩) from H6.out.right.bl).frees
  have ln := (show BlockAt w6 bn 119 (ncells bt bd ⟨t, ep, false⟩) from H6.out.right.bl).lt
  have ca := H6.out.bl.cells
  have fa := H6.out.bl.frees
  have la := H6.out.bl.lt
  have cx := H6.out.right.right.bl.cells
  have hne1 : bn ≠ gx := BlockAt.ne (show BlockAt w6 bn 119 (ncells bt bd ⟨t, ep, false⟩) from H6.out.right.bl) H6.out.right.right.bl (by decide)
  have hne2 : bn ≠ ga := BlockAt.ne (show BlockAt w6 bn 119 (ncells bt bd ⟨t, ep, false⟩) from H6.out.right.bl) H6.out.bl (by decide)
  have hne3 := Ne.symm hne1
  have hne4 := Ne.symm hne2
  refine ⟨_, rfl, cn, ?_⟩
  try simp only [zP, zA, zB, zC]
  repeat (first | (refine LexL.none (by rfl) ?_; (try simp only [zP, zA, zB, zC])) | (refine LexL.still (v := ?_) (by rfl) ?_ ?_; rotate_left; (focus (intro W hW; (try dsimp only at hW); go_simp; (try (with_reducible rfl)); done)); (try simp only [zP, zA, zB, zC])))
  refine LexL.done ?_
  by_cases hac : ac = 0
  · subst hac
    have HY2 := zH (show (d', (⟨T', ep, false⟩ : Nod), (⟨a1, a2, a3⟩ : Ans)) = Y by rw [← HY.out, if_neg (by simp)])
    have HE := zH (H6.out.two.setB 0 (.pointer (some ⟨bt', 0, none⟩)))
    have QE := zH (Q6.out.setCell ⟨bn, 0, none⟩ (.pointer (some ⟨bt', 0, none⟩)))
    clear HY
    go_wp2
    have hf := ((HE.out.two.setB 0 (zI zi a1)).setB 1 (zI zi a2)).setB 2 (zI zi a3)
    have hl := run_load_part (P := Tryz.prog) (off := 0) (ty := 88) (vs := [zI zi a1, zI zi a2, zI zi a3]) hf.bl rfl Tryz.underlying88 rfl (by kernel_rfl)
    rw [← HY2.out]
    exact bodyPost_ret (results_cell1 rfl rfl hl) rfl ⟨rfl, ((QE.out.setCell _ _).setCell _ _).setCell _ _, .inr ⟨HCD.out, bt', hf.right.two.right⟩⟩
  · have hacb : (ac != 0) = true := by simpa using hac
    have hde : d' = d := by have := HAP.out; unfold Dsk.append at this; split at this; · simp only [Prod.mk.injEq] at this; exact this.1.symm
                            · split at this
                              · simp only [Prod.mk.injEq] at this; exact this.1.symm
                              · simp only [Prod.mk.injEq] at this; exact absurd this.2.symm hac
    have HDE := zH hde
    have HY2 := zH (show (d, (⟨t, ep, false⟩ : Nod), (⟨ac, 0, 0⟩ : Ans)) = Y by rw [← HY.out, if_pos hac])
    have HAC := zH hac
    clear HY hac hde
    go_wp2
    have hf := ((H6.out.setB 0 (zI zi ac)).setB 1 (zI zi 0)).setB 2 (zI zi 0)
    have hl := run_load_part (P := Tryz.prog) (off := 0) (ty := 88) (vs := [zI zi ac, zI zi 0, zI zi 0]) hf.bl rfl Tryz.underlying88 rfl (by kernel_rfl)
    rw [← HY2.out]
    exact bodyPost_ret (results_cell1 rfl rfl hl) rfl ⟨rfl, ((Q6.out.setCell _ _).setCell _ _).setCell _ _, .inl ⟨HAC.out, rfl, by have := hf.right; rw [HDE.out] at this; exact (this.eq (by ac_rfl : _ = (bl gx 88 [zI zi a1, zI zi a2, zI zi a3] * tab bt' T') * (nblk bn bt bd ⟨t, ep, false⟩ * (tab bt t * (dsk bd d * R))))).right⟩⟩
end Go.Proofs.YtfihmpkkpgmdhaaGreatDoor
