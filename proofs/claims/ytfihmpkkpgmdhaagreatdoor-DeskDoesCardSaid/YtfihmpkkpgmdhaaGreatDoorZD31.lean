/-
  What the proof of DeskDoes leans on: definitions, laws, contracts of functions. No condition besides those that each theorem names.
-/
import Derived.Test.YtfihmpkkpgmdhaaGreatDoorZD30
set_option maxRecDepth 100000
set_option maxHeartbeats 16000000
set_option linter.unusedVariables false
set_option linter.unusedSimpArgs false
set_option linter.unnecessarySimpa false
namespace Go.Proofs.YtfihmpkkpgmdhaaGreatDoor
open Go.RowKit
open List renaming setIfInBounds_toArray → zA, set_cons_zero → zB, set_cons_succ → zC
open Go.Act renaming put → zP
open Go.Lib renaming hid → zH
open Go.Value renaming int → zI
open Go.IntKind renaming i64 → zi
def swords:List (List UInt8):=[[],tOpen,[],[],tDown,tTick]
theorem sidx_Open:Lib.idxOfS (swords.map strOf) (strOf tOpen)=1:=by decide +kernel
theorem sidx_Down:Lib.idxOfS (swords.map strOf) (strOf tDown)=4:=by decide +kernel
theorem sidx_Tick:Lib.idxOfS (swords.map strOf) (strOf tTick)=5:=by decide +kernel
theorem swords_row {w:World} {g:Nat} (hg:w.heap.size=g) (cs:Array Value) (hc:cs=(svls swords).toArray) (ty:TypeId):RowAt (w.alloc (.cells cs ty)) (.slice (some ⟨g,0,none⟩) 6 6) swords.length (svls swords):=svls_row (l:=swords) hg (by decide) cs hc ty
theorem step_Open (b bg:Nat) (told:List UInt8) (g:Gld) (v:Value) (a:Int) (w:World) {w0:World} {R:HP} (h:Holds w (kst b bg told*(gld bg g*(inum v [a]*(lay w0*R))))) (hg:g.Good) (ht:told.length≤300000000) :
  Calls Tryz.prog 26 #[.pointer (some ⟨b,0,none⟩),.string (strOf tOpen),v] w fun e w'=>e=.returned (.bool true)∧Quiet w w'∧Holds w' (kst b bg (told++line (ansTxt (g.step ⟨1,a,0,Ord.zero⟩).2 false))*(gld bg (g.step ⟨1,a,0,Ord.zero⟩).1*(inum v [a]*(lay w0*R)))):=by
 obtain ⟨gn,cn,rfl,d1,d2⟩:=inum_cons h.three
 simp only [List.length_nil,Nat.zero_add] at d1 h ⊢
 have HX:=zH sidx_Open
 have H0:=zH (h.alloc (.cells (svls swords).toArray 9));have HG:=zH hg
 clear h hg
 go_enter Tryz.func26,Tryz.ntmps26
 go_wp2_with fail
 refine (index_sl _ swords tOpen _ (swords_row rfl _ rfl _) (by decide) (by decide)).mono ?_
 rw [HX.out]
 rintro e w2 ⟨rfl,rfl⟩
 go_wp2_with fail
 have hx4:Holds (w.alloc (.cells (svls swords).toArray 9)).drew (gld bg g*(kst b bg told*(inum (.slice (some ⟨gn,0,none⟩) 1 cn) [a]*(lay w0*R)))):=H0.out.drew.two
 have mkS:∀ (W:World) (td:List UInt8) (A:HP),Holds W (A*(kst b bg td*(inum (.slice (some ⟨gn,0,none⟩) 1 cn) [a]*(lay w0*R))))→W.cell? ⟨b,2,none⟩=some (.pointer (some ⟨bg,0,none⟩))∧W.cell? ⟨gn,0,none⟩=some (zI zi a):=fun W td A h=>⟨kst_bg h.two,inum_cell h.three 0 _ rfl⟩
 have HX4:=zH hx4;have MKS:=zH mkS
 clear hx4 mkS
 obtain ⟨lg,hlg⟩:=HG.out
 have HA4:=zH (step_small hlg ⟨1,a,0,Ord.zero⟩)
 refine wp_region_lex (fun W=>W.cell? ⟨b,2,none⟩=some (.pointer (some ⟨bg,0,none⟩))∧W.cell? ⟨gn,0,none⟩=some (zI zi a)) [10,11] (by kernel_rfl) (by kernel_rfl) (MKS.out _ _ _ HX4.out) ?_
 iterate 9 ((first|(refine LexL.none (by rfl) ?_;(try simp only [zP,zA,zB,zC]))|(refine LexL.still (v:=?_) (by rfl) ?_ ?_;rotate_left;(focus (intro W hW;(try dsimp only at hW);go_simp;(try (with_reducible rfl));done));(try simp only [zP,zA,zB,zC]))))
 refine LexL.still (v:=.agg #[zI zi 1,zI zi a,zI zi 0,zI zi 0,zI zi 0,zI zi 0,zI zi 0,zI zi 0,zI zi 0]) (by rfl) (fun W hW=>exec_built 86 _ rfl [zI zi 1,zI zi a,zI zi 0,zI zi 0,zI zi 0,zI zi 0,zI zi 0,zI zi 0,zI zi 0] (by kernel_rfl)) ?_
 try simp only [zP,zA,zB,zC]
 refine LexL.call (f:=44) (args:=#[.pointer (some ⟨bg,0,none⟩),.agg #[zI zi 1,zI zi a,zI zi 0,zI zi 0,zI zi 0,zI zi 0,zI zi 0,zI zi 0,zI zi 0]]) (w1:=(w.alloc (.cells (svls swords).toArray 9)).drew) (by rfl) (by decide) (by go_simp) ?_
 refine (gstep_sl bg g 1 a 0 0 0 0 0 0 0 _ HX4.out HG.out).mono ?_
 rintro e W5 ⟨rfl,q5,h5⟩
 have H5:=zH (show Holds W5 (gld bg (g.step ⟨1,a,0,Ord.zero⟩).1*_) from h5);have Q5:=zH ((((Quiet.refl w).alloc _).drew).trans q5)
 clear h5 q5
 refine ⟨_,rfl,MKS.out _ _ _ H5.out,?_⟩
 try simp only [zP,zA,zB,zC]
 repeat (first|(refine LexL.none (by rfl) ?_;(try simp only [zP,zA,zB,zC]))|(refine LexL.still (v:=?_) (by rfl) ?_ ?_;rotate_left;(focus (intro W hW;(try dsimp only at hW);go_simp;(try (with_reducible rfl));done));(try simp only [zP,zA,zB,zC])))
 refine LexL.call (f:=43) (args:=#[.pointer (some ⟨b,0,none⟩),(g.step ⟨1,a,0,Ord.zero⟩).2.val,.bool false]) (w1:=W5) (by rfl) (by decide) (by go_simp<;>rfl) ?_
 refine (answer_sl b bg told (g.step ⟨1,a,0,Ord.zero⟩).2 false W5 (H5.out.eq (by ac_rfl:_=kst b bg told*(lay w0*(gld bg (g.step ⟨1,a,0,Ord.zero⟩).1*(inum (.slice (some ⟨gn,0,none⟩) 1 cn) [a]*R))))) HA4.out (by omega)).mono ?_
 rintro e W6 ⟨rfl,q6,h6⟩
 have H6:=zH (h6.eq (by ac_rfl:_=kst b bg (told++line (ansTxt (g.step ⟨1,a,0,Ord.zero⟩).2 false))*(gld bg (g.step ⟨1,a,0,Ord.zero⟩).1*(inum (.slice (some ⟨gn,0,none⟩) 1 cn) [a]*(lay w0*R)))))
 have Q6:=zH (Q5.out.trans q6)
 refine ⟨_,rfl,MKS.out _ _ (gld bg (g.step ⟨1,a,0,Ord.zero⟩).1) H6.out.two,?_⟩
 clear h6 q6
 try simp only [zP,zA,zB,zC]
 refine LexL.done ?_
 go_wp2
 go_ret
 exact ⟨rfl,Q6.out,H6.out⟩
theorem step_Down (b bg:Nat) (told:List UInt8) (g:Gld) (v:Value) (a:Int) (w:World) {w0:World} {R:HP} (h:Holds w (kst b bg told*(gld bg g*(inum v [a]*(lay w0*R))))) (hg:g.Good) (ht:told.length≤300000000) :
  Calls Tryz.prog 26 #[.pointer (some ⟨b,0,none⟩),.string (strOf tDown),v] w fun e w'=>e=.returned (.bool true)∧Quiet w w'∧Holds w' (kst b bg (told++line (ansTxt (g.step ⟨4,a,0,Ord.zero⟩).2 false))*(gld bg (g.step ⟨4,a,0,Ord.zero⟩).1*(inum v [a]*(lay w0*R)))):=by
 obtain ⟨gn,cn,rfl,d1,d2⟩:=inum_cons h.three
 simp only [List.length_nil,Nat.zero_add] at d1 h ⊢
 have HX:=zH sidx_Down
 have H0:=zH (h.alloc (.cells (svls swords).toArray 9));have HG:=zH hg
 clear h hg
 go_enter Tryz.func26,Tryz.ntmps26
 go_wp2_with fail
 refine (index_sl _ swords tDown _ (swords_row rfl _ rfl _) (by decide) (by decide)).mono ?_
 rw [HX.out]
 rintro e w2 ⟨rfl,rfl⟩
 go_wp2_with fail
 have hx4:Holds (w.alloc (.cells (svls swords).toArray 9)).drew (gld bg g*(kst b bg told*(inum (.slice (some ⟨gn,0,none⟩) 1 cn) [a]*(lay w0*R)))):=H0.out.drew.two
 have mkS:∀ (W:World) (td:List UInt8) (A:HP),Holds W (A*(kst b bg td*(inum (.slice (some ⟨gn,0,none⟩) 1 cn) [a]*(lay w0*R))))→W.cell? ⟨b,2,none⟩=some (.pointer (some ⟨bg,0,none⟩))∧W.cell? ⟨gn,0,none⟩=some (zI zi a):=fun W td A h=>⟨kst_bg h.two,inum_cell h.three 0 _ rfl⟩
 have HX4:=zH hx4;have MKS:=zH mkS
 clear hx4 mkS
 obtain ⟨lg,hlg⟩:=HG.out
 have HA4:=zH (step_small hlg ⟨4,a,0,Ord.zero⟩)
 refine wp_region_lex (fun W=>W.cell? ⟨b,2,none⟩=some (.pointer (some ⟨bg,0,none⟩))∧W.cell? ⟨gn,0,none⟩=some (zI zi a)) [10,11] (by kernel_rfl) (by kernel_rfl) (MKS.out _ _ _ HX4.out) ?_
 iterate 9 ((first|(refine LexL.none (by rfl) ?_;(try simp only [zP,zA,zB,zC]))|(refine LexL.still (v:=?_) (by rfl) ?_ ?_;rotate_left;(focus (intro W hW;(try dsimp only at hW);go_simp;(try (with_reducible rfl));done));(try simp only [zP,zA,zB,zC]))))
 refine LexL.still (v:=.agg #[zI zi 4,zI zi a,zI zi 0,zI zi 0,zI zi 0,zI zi 0,zI zi 0,zI zi 0,zI zi 0]) (by rfl) (fun W hW=>exec_built 86 _ rfl [zI zi 4,zI zi a,zI zi 0,zI zi 0,zI zi 0,zI zi 0,zI zi 0,zI zi 0,zI zi 0] (by kernel_rfl)) ?_
 try simp only [zP,zA,zB,zC]
 refine LexL.call (f:=44) (args:=#[.pointer (some ⟨bg,0,none⟩),.agg #[zI zi 4,zI zi a,zI zi 0,zI zi 0,zI zi 0,zI zi 0,zI zi 0,zI zi 0,zI zi 0]]) (w1:=(w.alloc (.cells (svls swords).toArray 9)).drew) (by rfl) (by decide) (by go_simp) ?_
 refine (gstep_sl bg g 4 a 0 0 0 0 0 0 0 _ HX4.out HG.out).mono ?_
 rintro e W5 ⟨rfl,q5,h5⟩
 have H5:=zH (show Holds W5 (gld bg (g.step ⟨4,a,0,Ord.zero⟩).1*_) from h5);have Q5:=zH ((((Quiet.refl w).alloc _).drew).trans q5)
 clear h5 q5
 refine ⟨_,rfl,MKS.out _ _ _ H5.out,?_⟩
 try simp only [zP,zA,zB,zC]
 repeat (first|(refine LexL.none (by rfl) ?_;(try simp only [zP,zA,zB,zC]))|(refine LexL.still (v:=?_) (by rfl) ?_ ?_;rotate_left;(focus (intro W hW;(try dsimp only at hW);go_simp;(try (with_reducible rfl));done));(try simp only [zP,zA,zB,zC])))
 refine LexL.call (f:=43) (args:=#[.pointer (some ⟨b,0,none⟩),(g.step ⟨4,a,0,Ord.zero⟩).2.val,.bool false]) (w1:=W5) (by rfl) (by decide) (by go_simp<;>rfl) ?_
 refine (answer_sl b bg told (g.step ⟨4,a,0,Ord.zero⟩).2 false W5 (H5.out.eq (by ac_rfl:_=kst b bg told*(lay w0*(gld bg (g.step ⟨4,a,0,Ord.zero⟩).1*(inum (.slice (some ⟨gn,0,none⟩) 1 cn) [a]*R))))) HA4.out (by omega)).mono ?_
 rintro e W6 ⟨rfl,q6,h6⟩
 have H6:=zH (h6.eq (by ac_rfl:_=kst b bg (told++line (ansTxt (g.step ⟨4,a,0,Ord.zero⟩).2 false))*(gld bg (g.step ⟨4,a,0,Ord.zero⟩).1*(inum (.slice (some ⟨gn,0,none⟩) 1 cn) [a]*(lay w0*R)))))
 have Q6:=zH (Q5.out.trans q6)
 refine ⟨_,rfl,MKS.out _ _ (gld bg (g.step ⟨4,a,0,Ord.zero⟩).1) H6.out.two,?_⟩
 clear h6 q6
 try simp only [zP,zA,zB,zC]
 refine LexL.done ?_
 go_wp2
 go_ret
 exact ⟨rfl,Q6.out,H6.out⟩
theorem step_Tick (b bg:Nat) (told:List UInt8) (g:Gld) (v:Value) (a:Int) (w:World) {w0:World} {R:HP} (h:Holds w (kst b bg told*(gld bg g*(inum v [a]*(lay w0*R))))) (hg:g.Good) (ht:told.length≤300000000) :
  Calls Tryz.prog 26 #[.pointer (some ⟨b,0,none⟩),.string (strOf tTick),v] w fun e w'=>e=.returned (.bool true)∧Quiet w w'∧Holds w' (kst b bg (told++line (ansTxt (g.step ⟨5,a,0,Ord.zero⟩).2 false))*(gld bg (g.step ⟨5,a,0,Ord.zero⟩).1*(inum v [a]*(lay w0*R)))):=by
 obtain ⟨gn,cn,rfl,d1,d2⟩:=inum_cons h.three
 simp only [List.length_nil,Nat.zero_add] at d1 h ⊢
 have HX:=zH sidx_Tick
 have H0:=zH (h.alloc (.cells (svls swords).toArray 9));have HG:=zH hg
 clear h hg
 go_enter Tryz.func26,Tryz.ntmps26
 go_wp2_with fail
 refine (index_sl _ swords tTick _ (swords_row rfl _ rfl _) (by decide) (by decide)).mono ?_
 rw [HX.out]
 rintro e w2 ⟨rfl,rfl⟩
 go_wp2_with fail
 have hx4:Holds (w.alloc (.cells (svls swords).toArray 9)).drew (gld bg g*(kst b bg told*(inum (.slice (some ⟨gn,0,none⟩) 1 cn) [a]*(lay w0*R)))):=H0.out.drew.two
 have mkS:∀ (W:World) (td:List UInt8) (A:HP),Holds W (A*(kst b bg td*(inum (.slice (some ⟨gn,0,none⟩) 1 cn) [a]*(lay w0*R))))→W.cell? ⟨b,2,none⟩=some (.pointer (some ⟨bg,0,none⟩))∧W.cell? ⟨gn,0,none⟩=some (zI zi a):=fun W td A h=>⟨kst_bg h.two,inum_cell h.three 0 _ rfl⟩
 have HX4:=zH hx4;have MKS:=zH mkS
 clear hx4 mkS
 obtain ⟨lg,hlg⟩:=HG.out
 have HA4:=zH (step_small hlg ⟨5,a,0,Ord.zero⟩)
 refine wp_region_lex (fun W=>W.cell? ⟨b,2,none⟩=some (.pointer (some ⟨bg,0,none⟩))∧W.cell? ⟨gn,0,none⟩=some (zI zi a)) [10,11] (by kernel_rfl) (by kernel_rfl) (MKS.out _ _ _ HX4.out) ?_
 iterate 9 ((first|(refine LexL.none (by rfl) ?_;(try simp only [zP,zA,zB,zC]))|(refine LexL.still (v:=?_) (by rfl) ?_ ?_;rotate_left;(focus (intro W hW;(try dsimp only at hW);go_simp;(try (with_reducible rfl));done));(try simp only [zP,zA,zB,zC]))))
 refine LexL.still (v:=.agg #[zI zi 5,zI zi a,zI zi 0,zI zi 0,zI zi 0,zI zi 0,zI zi 0,zI zi 0,zI zi 0]) (by rfl) (fun W hW=>exec_built 86 _ rfl [zI zi 5,zI zi a,zI zi 0,zI zi 0,zI zi 0,zI zi 0,zI zi 0,zI zi 0,zI zi 0] (by kernel_rfl)) ?_
 try simp only [zP,zA,zB,zC]
 refine LexL.call (f:=44) (args:=#[.pointer (some ⟨bg,0,none⟩),.agg #[zI zi 5,zI zi a,zI zi 0,zI zi 0,zI zi 0,zI zi 0,zI zi 0,zI zi 0,zI zi 0]]) (w1:=(w.alloc (.cells (svls swords).toArray 9)).drew) (by rfl) (by decide) (by go_simp) ?_
 refine (gstep_sl bg g 5 a 0 0 0 0 0 0 0 _ HX4.out HG.out).mono ?_
 rintro e W5 ⟨rfl,q5,h5⟩
 have H5:=zH (show Holds W5 (gld bg (g.step ⟨5,a,0,Ord.zero⟩).1*_) from h5);have Q5:=zH ((((Quiet.refl w).alloc _).drew).trans q5)
 clear h5 q5
 refine ⟨_,rfl,MKS.out _ _ _ H5.out,?_⟩
 try simp only [zP,zA,zB,zC]
 repeat (first|(refine LexL.none (by rfl) ?_;(try simp only [zP,zA,zB,zC]))|(refine LexL.still (v:=?_) (by rfl) ?_ ?_;rotate_left;(focus (intro W hW;(try dsimp only at hW);go_simp;(try (with_reducible rfl));done));(try simp only [zP,zA,zB,zC])))
 refine LexL.call (f:=43) (args:=#[.pointer (some ⟨b,0,none⟩),(g.step ⟨5,a,0,Ord.zero⟩).2.val,.bool false]) (w1:=W5) (by rfl) (by decide) (by go_simp<;>rfl) ?_
 refine (answer_sl b bg told (g.step ⟨5,a,0,Ord.zero⟩).2 false W5 (H5.out.eq (by ac_rfl:_=kst b bg told*(lay w0*(gld bg (g.step ⟨5,a,0,Ord.zero⟩).1*(inum (.slice (some ⟨gn,0,none⟩) 1 cn) [a]*R))))) HA4.out (by omega)).mono ?_
 rintro e W6 ⟨rfl,q6,h6⟩
 have H6:=zH (h6.eq (by ac_rfl:_=kst b bg (told++line (ansTxt (g.step ⟨5,a,0,Ord.zero⟩).2 false))*(gld bg (g.step ⟨5,a,0,Ord.zero⟩).1*(inum (.slice (some ⟨gn,0,none⟩) 1 cn) [a]*(lay w0*R)))))
 have Q6:=zH (Q5.out.trans q6)
 refine ⟨_,rfl,MKS.out _ _ (gld bg (g.step ⟨5,a,0,Ord.zero⟩).1) H6.out.two,?_⟩
 clear h6 q6
 try simp only [zP,zA,zB,zC]
 refine LexL.done ?_
 go_wp2
 go_ret
 exact ⟨rfl,Q6.out,H6.out⟩
theorem stepno_Open (b:Nat) (v:Value) (l:List Int) (hne:l.length≠1) (w:World) (hv:RowAt w v l.length (ivs l)) {R:HP} (h:Holds w R) :
  Calls Tryz.prog 26 #[.pointer (some ⟨b,0,none⟩),.string (strOf tOpen),v] w fun e w'=>e=.returned (.bool false)∧Quiet w w'∧Holds w' R:=by
 obtain ⟨va,vc,rfl,-,-⟩:=hv.shape
 have HX:=zH (sidx_Open)
 have hne0:¬ (l.length:Int)=1:=by omega
 have hne1:((l.length:Int) != 1)=true:=by simpa using hne0
 have H0:=zH (h.alloc (.cells (svls swords).toArray 9))
 clear h hv
 go_enter Tryz.func26,Tryz.ntmps26
 go_wp2_with fail
 refine (index_sl _ swords tOpen _ (swords_row rfl _ rfl _) (by decide) (by decide)).mono ?_
 rw [HX.out]
 rintro e w2 ⟨rfl,rfl⟩
 go_wp2
 go_ret
 exact ⟨rfl,(Quiet.refl w).alloc _,H0.out⟩
theorem stepno_Down (b:Nat) (v:Value) (l:List Int) (hne:l.length≠1) (w:World) (hv:RowAt w v l.length (ivs l)) {R:HP} (h:Holds w R) :
  Calls Tryz.prog 26 #[.pointer (some ⟨b,0,none⟩),.string (strOf tDown),v] w fun e w'=>e=.returned (.bool false)∧Quiet w w'∧Holds w' R:=by
 obtain ⟨va,vc,rfl,-,-⟩:=hv.shape
 have HX:=zH (sidx_Down)
 have hne0:¬ (l.length:Int)=1:=by omega
 have hne1:((l.length:Int) != 1)=true:=by simpa using hne0
 have H0:=zH (h.alloc (.cells (svls swords).toArray 9))
 clear h hv
 go_enter Tryz.func26,Tryz.ntmps26
 go_wp2_with fail
 refine (index_sl _ swords tDown _ (swords_row rfl _ rfl _) (by decide) (by decide)).mono ?_
 rw [HX.out]
 rintro e w2 ⟨rfl,rfl⟩
 go_wp2
 go_ret
 exact ⟨rfl,(Quiet.refl w).alloc _,H0.out⟩
theorem stepno_Tick (b:Nat) (v:Value) (l:List Int) (hne:l.length≠1) (w:World) (hv:RowAt w v l.length (ivs l)) {R:HP} (h:Holds w R) :
  Calls Tryz.prog 26 #[.pointer (some ⟨b,0,none⟩),.string (strOf tTick),v] w fun e w'=>e=.returned (.bool false)∧Quiet w w'∧Holds w' R:=by
 obtain ⟨va,vc,rfl,-,-⟩:=hv.shape
 have HX:=zH (sidx_Tick)
 have hne0:¬ (l.length:Int)=1:=by omega
 have hne1:((l.length:Int) != 1)=true:=by simpa using hne0
 have H0:=zH (h.alloc (.cells (svls swords).toArray 9))
 clear h hv
 go_enter Tryz.func26,Tryz.ntmps26
 go_wp2_with fail
 refine (index_sl _ swords tTick _ (swords_row rfl _ rfl _) (by decide) (by decide)).mono ?_
 rw [HX.out]
 rintro e w2 ⟨rfl,rfl⟩
 go_wp2
 go_ret
 exact ⟨rfl,(Quiet.refl w).alloc _,H0.out⟩
theorem stepno_none (b:Nat) (v:Value) (l:List Int) (x:List UInt8) (hx:x∉swords) (w:World) (hv:RowAt w v l.length (ivs l)) {R:HP} (h:Holds w R) :
  Calls Tryz.prog 26 #[.pointer (some ⟨b,0,none⟩),.string (strOf x),v] w fun e w'=>e=.returned (.bool false)∧Quiet w w'∧Holds w' R:=by
 obtain ⟨va,vc,rfl,-,-⟩:=hv.shape
 have HX:=zH (idx_miss hx)
 have H0:=zH (h.alloc (.cells (svls swords).toArray 9))
 clear h hv
 go_enter Tryz.func26,Tryz.ntmps26
 go_wp2_with fail
 refine (index_sl _ swords x _ (swords_row rfl _ rfl _) (by decide) (by decide)).mono ?_
 rw [HX.out]
 rintro e w2 ⟨rfl,rfl⟩
 go_wp2
 go_ret
 exact ⟨rfl,(Quiet.refl w).alloc _,H0.out⟩
theorem step_sl (b bg:Nat) (told:List UInt8) (g:Gld) (v:Value) (x:List UInt8) (l:List Int) (s:Stp) (w:World) {w0:World} {R:HP} (h:Holds w (kst b bg told*(gld bg g*(inum v l*(lay w0*R))))) (hg:g.Good) (ht:told.length≤300000000) (hq:stepReq x l=some s) :
  Calls Tryz.prog 26 #[.pointer (some ⟨b,0,none⟩),.string (strOf x),v] w fun e w'=>e=.returned (.bool true)∧Quiet w w'∧Holds w' (kst b bg (told++line (ansTxt (g.step s).2 false))*(gld bg (g.step s).1*(inum v l*(lay w0*R)))):=by
 unfold stepReq at hq
 split at hq
 ·rename_i a
  split at hq
  ·rename_i e;subst e;obtain rfl:=Option.some.inj hq;exact step_Open b bg told g v a w h hg ht
  split at hq
  ·rename_i e;subst e;obtain rfl:=Option.some.inj hq;exact step_Down b bg told g v a w h hg ht
  split at hq
  ·rename_i e;subst e;obtain rfl:=Option.some.inj hq;exact step_Tick b bg told g v a w h hg ht
  cases hq
 ·cases hq
theorem step_no (b:Nat) (v:Value) (x:List UInt8) (l:List Int) (w:World) (hv:RowAt w v l.length (ivs l)) (hx:x≠[]) (hq:stepReq x l=none) {R:HP} (h:Holds w R) :
  Calls Tryz.prog 26 #[.pointer (some ⟨b,0,none⟩),.string (strOf x),v] w fun e w'=>e=.returned (.bool false)∧Quiet w w'∧Holds w' R:=by
 have one:∀ {y:List UInt8},(∀ a,stepReq y [a]≠none)→stepReq y l=none→l.length≠1:=fun h0 hq hn=>by
  match l,hn with
  | [a],_=>exact h0 a hq
 by_cases e1:x=tOpen
 ·subst e1;exact stepno_Open b v l (one (fun a=>by simp [stepReq]) hq) w hv h
 by_cases e2:x=tDown
 ·subst e2;exact stepno_Down b v l (one (fun a=>by simp [stepReq,e1]) hq) w hv h
 by_cases e3:x=tTick
 ·subst e3;exact stepno_Tick b v l (one (fun a=>by simp [stepReq,e1,e2]) hq) w hv h
 exact stepno_none b v l x (by simp [swords,hx,e1,e2,e3]) w hv h
end Go.Proofs.YtfihmpkkpgmdhaaGreatDoor
