/-
  What the proof of DeskDoes leans on: definitions, laws, contracts of functions. No condition besides those that each theorem names.
-/
import Derived.Test.YtfihmpkkpgmdhaaGreatDoorZD38
import Derived.Test.YtfihmpkkpgmdhaaGreatDoorZD44
set_option maxRecDepth 100000
set_option maxHeartbeats 16000000
set_option linter.unusedVariables false
set_option linter.unusedSimpArgs false
set_option linter.unnecessarySimpa false
namespace Go.Proofs.YtfihmpkkpgmdhaaGreatDoor
open Go.RowKit
open Go.Lib renaming hid → zH
theorem what_len:(Lib.join [tWhat] [32]).length≤1000000:=by rw [join_one'];decide
theorem line_none (b bg:Nat) (told:List UInt8) (g:Gld) (s:List UInt8) (hw:words s=[]) (w:World) {w0:World} {R:HP} (h:Holds w (kst b bg told*(gld bg g*(lay w0*R)))) (hg:g.Good) (hs:s.length≤9000) (ht:told.length≤200000000) :
  Calls Tryz.prog 15 #[.pointer (some ⟨b,0,none⟩),.string (strOf s)] w fun e w'=>e=.returned (.tuple #[])∧Quiet w w'∧Holds w' (kst b bg (told++[])*(gld bg g*(lay w0*R))):=by
 have hsp:=split_sl s w (lay_laid h.three) (by omega)
 have hpl:=(pieces_len 32 s).1
 have hwl:=words_len s
 have hwz:=words_size s
 have hwn:=words_ne s
 have hd:=delete_sl (pieces 32 s) w.heap.size _ (by omega) (h.boxB (ty:=9) (cs:=svls (pieces 32 s)) rfl)
 rw [words_eq,hw] at hd
 rw [hw] at hwl hwz hwn
 have hcap:0≤(pieces 32 s).length:=by
  have:=List.length_filter_le (fun x => !decide (x=[])) (pieces 32 s)
  rw [words_eq,hw] at this
  simpa using this
 obtain ⟨N,hN⟩:∃ N,(pieces 32 s).length=N:=⟨_,rfl⟩
 rw [hN] at hsp hd hcap hpl
 have HS:=zH hsp;have HD:=zH hd;have HG:=zH hg;have HZ:=zH hwz;have HN:=zH hwn;have HWL:=zH hwl
 clear h hsp hd hg hN hwz hwn hwl hw
 go_enter Tryz.func15,Tryz.ntmps15
 go_wp2_with fail
 refine HS.out.mono ?_
 rintro e w1 ⟨rfl,rfl⟩
 go_wp2_with fail
 refine HD.out.mono ?_
 rintro e w2 ⟨rfl,q2,h2⟩
 have Q2:=zH (((Quiet.refl w).alloc (.cells (svls (pieces 32 s)).toArray 9)).trans q2)
 have H2:=zH h2
 clear h2 q2
 go_wp2
 first|go_end0|((try simp only [Exit.inBlock,Exit.then]);refine bodyPost_ret (results_none rfl _ _ _) rfl ?_)
 exact ⟨rfl,Q2.out,by simpa using H2.out.right⟩
theorem line_node (b bg:Nat) (told:List UInt8) (g:Gld) (s:List UInt8) (x:List UInt8) (r:List (List UInt8)) (hw:words s=x::r) (X:Stp) (t:Bool) (hq:nodeReq (x::r)=some (X,t)) (w:World) {w0:World} {R:HP} (h:Holds w (kst b bg told*(gld bg g*(lay w0*R)))) (hg:g.Good) (hs:s.length≤9000) (ht:told.length≤200000000) :
  Calls Tryz.prog 15 #[.pointer (some ⟨b,0,none⟩),.string (strOf s)] w fun e w'=>e=.returned (.tuple #[])∧Quiet w w'∧Holds w' (kst b bg (told++line (ansTxt (g.step X).2 t))*(gld bg (g.step X).1*(lay w0*R))):=by
 have hsp:=split_sl s w (lay_laid h.three) (by omega)
 have hpl:=(pieces_len 32 s).1
 have hwl:=words_len s
 have hwz:=words_size s
 have hwn:=words_ne s
 have hd:=delete_sl (pieces 32 s) w.heap.size _ (by omega) (h.boxB (ty:=9) (cs:=svls (pieces 32 s)) rfl)
 rw [words_eq,hw] at hd
 rw [hw] at hwl hwz hwn
 have hcap:(x::r).length≤(pieces 32 s).length:=by
  have:=List.length_filter_le (fun x => !decide (x=[])) (pieces 32 s)
  rw [words_eq,hw] at this
  simpa using this
 obtain ⟨N,hN⟩:∃ N,(pieces 32 s).length=N:=⟨_,rfl⟩
 rw [hN] at hsp hd hcap hpl
 have HS:=zH hsp;have HD:=zH hd;have HG:=zH hg;have HZ:=zH hwz;have HN:=zH hwn;have HWL:=zH hwl
 clear h hsp hd hg hN hwz hwn hwl hw
 have HQ:=zH hq;clear hq
 go_enter Tryz.func15,Tryz.ntmps15
 go_wp2_with fail
 refine HS.out.mono ?_
 rintro e w1 ⟨rfl,rfl⟩
 go_wp2_with fail
 refine HD.out.mono ?_
 rintro e w2 ⟨rfl,q2,h2⟩
 have Q2:=zH (((Quiet.refl w).alloc (.cells (svls (pieces 32 s)).toArray 9)).trans q2)
 have H2:=zH (h2.eq (by ac_rfl:_=kst b bg told*(gld bg g*(wds (.slice (some ⟨w.heap.size,0,none⟩) (r.length+1) N) (x::r)*(lay w0*R)))))
 have hcx:w2.cell? ⟨w.heap.size,0,none⟩=some (.string (strOf x)):=wds_cells h2 0 x rfl
 clear h2 q2
 have hn0:¬ ((r.length:Int)+1)=0:=by omega
 have hn1:decide (((r.length:Int)+1)=0)=false:=by simpa using hn0
 simp only [List.length_cons,Int.natCast_add,Int.cast_ofNat_Int] at *
 go_wp2_with fail
 refine (node_yes b bg told g _ (x::r) X t _ H2.out HG.out (by have:=HWL.out;simp only [List.length_cons,List.length_nil] at this ⊢;omega) (fun y hy=>by have:=HZ.out y hy;omega) HQ.out (by omega)).mono ?_
 rintro e w3 ⟨rfl,q3,h3⟩
 have H3:=zH h3;have Q3:=zH (Q2.out.trans q3)
 clear h3 q3
 go_wp2
 first|go_end0|((try simp only [Exit.inBlock,Exit.then]);refine bodyPost_ret (results_none rfl _ _ _) rfl ?_)
 exact ⟨rfl,Q3.out,H3.out.three.right.eq (by ac_rfl)⟩
theorem wds_rest {w:World} {g n c:Nat} {x:List UInt8} {r:List (List UInt8)} {A:HP} (h:Holds w (wds (.slice (some ⟨g,0,none⟩) n c) (x::r)*A)) (hn:n=r.length+1):RowAt w (.slice (if c=1 then some ⟨g,0,none⟩ else some ⟨g,1,none⟩) r.length (c-1)) r.length (svls r):=by
 obtain ⟨gg,cc,e,h1,h2⟩:=wds_cons h
 simp only [Value.slice.injEq,Option.some.injEq,Addr.mk.injEq,and_true] at e
 obtain ⟨rfl,_,rfl⟩:=e
 by_cases hr:r=[]
 ·subst hr
  refine ⟨_,_,rfl,Nat.zero_le _,by unfold maxLen;omega,fun e=>?_,fun e=>absurd rfl e⟩
  split at e<;>cases e
 ·have hl:r.length≠0:=fun e=>hr (List.length_eq_zero_iff.1 e)
  rw [if_neg (by omega)]
  have:=wds_tail h (by simpa using hn) (q:=1) (m:=r.length) (d:=c-1) (by omega) (by omega)
  simpa using this
theorem line_bad (b bg:Nat) (told:List UInt8) (g:Gld) (s:List UInt8) (x:List UInt8) (r:List (List UInt8)) (hw:words s=x::r) (hq:nodeReq (x::r)=none) (hm:numsOf r=none) (w:World) {w0:World} {R:HP} (h:Holds w (kst b bg told*(gld bg g*(lay w0*R)))) (hg:g.Good) (hs:s.length≤9000) (ht:told.length≤200000000) :
  Calls Tryz.prog 15 #[.pointer (some ⟨b,0,none⟩),.string (strOf s)] w fun e w'=>e=.returned (.tuple #[])∧Quiet w w'∧Holds w' (kst b bg (told++line tWhat)*(gld bg g*(lay w0*R))):=by
 have hsp:=split_sl s w (lay_laid h.three) (by omega)
 have hpl:=(pieces_len 32 s).1
 have hwl:=words_len s
 have hwz:=words_size s
 have hwn:=words_ne s
 have hd:=delete_sl (pieces 32 s) w.heap.size _ (by omega) (h.boxB (ty:=9) (cs:=svls (pieces 32 s)) rfl)
 rw [words_eq,hw] at hd
 rw [hw] at hwl hwz hwn
 have hcap:(x::r).length≤(pieces 32 s).length:=by
  have:=List.length_filter_le (fun x => !decide (x=[])) (pieces 32 s)
  rw [words_eq,hw] at this
  simpa using this
 obtain ⟨N,hN⟩:∃ N,(pieces 32 s).length=N:=⟨_,rfl⟩
 rw [hN] at hsp hd hcap hpl
 have HS:=zH hsp;have HD:=zH hd;have HG:=zH hg;have HZ:=zH hwz;have HN:=zH hwn;have HWL:=zH hwl
 clear h hsp hd hg hN hwz hwn hwl hw
 have HQ:=zH hq;have HM:=zH hm;clear hq hm
 by_cases hN1:N=1
 ·subst hN1
  obtain rfl:r=[]:=List.length_eq_zero_iff.1 (by have:=hcap;simp only [List.length_cons] at this;omega)
  go_enter Tryz.func15,Tryz.ntmps15
  go_wp2_with fail
  refine HS.out.mono ?_
  rintro e w1 ⟨rfl,rfl⟩
  go_wp2_with fail
  refine HD.out.mono ?_
  rintro e w2 ⟨rfl,q2,h2⟩
  have Q2:=zH (((Quiet.refl w).alloc (.cells (svls (pieces 32 s)).toArray 9)).trans q2)
  have H2:=zH (h2.eq (by ac_rfl:_=kst b bg told*(gld bg g*(wds (.slice (some ⟨w.heap.size,0,none⟩) 1 1) [x]*(lay w0*R)))))
  have hcx:w2.cell? ⟨w.heap.size,0,none⟩=some (.string (strOf x)):=wds_cells h2 0 x rfl
  clear h2 q2
  simp only [List.length_cons,List.length_nil,Nat.zero_add] at *
  go_wp2_with fail
  refine (node_no b bg told g _ [x] _ H2.out HG.out (by simp) (by have:=HWL.out;simp only [List.length_cons,List.length_nil] at this ⊢;omega) (fun y hy=>by have:=HZ.out y hy;omega) HN.out HQ.out (by omega)).mono ?_
  rintro e w3 ⟨rfl,q3,h3⟩
  have H3:=zH h3;have Q3:=zH (Q2.out.trans q3)
  have hcy:w3.cell? ⟨w.heap.size,0,none⟩=some (.string (strOf x)):=wds_cells h3.three 0 x rfl
  have hrow:=wds_rest h3.three rfl
  simp only [if_true,Nat.sub_self] at hrow
  have HRR:=zH hrow
  clear h3 q3 hcx hrow
  go_wp2_with fail
  refine (numbers_no _ [] _ (H3.out.eq (by ac_rfl:_=lay w0*(kst b bg told*(gld bg g*(wds (.slice (some ⟨w.heap.size,0,none⟩) 1 1) [x]*R))))) HRR.out (by have:=HWL.out;(try simp only [List.length_cons,List.length_nil] at this ⊢);omega) (fun y hy=>by have:=HZ.out y (List.mem_cons_of_mem _ hy);omega) HM.out).mono ?_
  rintro e w4 ⟨rfl,q4,h4⟩
  have H4:=zH (h4.eq (by ac_rfl:_=kst b bg told*(gld bg g*(wds (.slice (some ⟨w.heap.size,0,none⟩) 1 1) [x]*(lay w0*R)))));have Q4:=zH (Q3.out.trans q4)
  clear h4 q4
  go_wp2_with (go_at_call 28;refine (say_sl b bg told _ [tWhat] _ (H4.out.alloc (.cells (svls [tWhat]).toArray 9)) (svls_row rfl (by simp) _ rfl _) (by simp) (by simp) (by omega) what_len).mono ?_;rintro e w9 ⟨rfl,q9,h9⟩)
  rw [join_one'] at h9
  first|go_end0|((try simp only [Exit.inBlock,Exit.then]);refine bodyPost_ret (results_none rfl _ _ _) rfl ?_)
  exact ⟨rfl,(Q4.out.alloc _).trans q9,h9.three.right.eq (by ac_rfl)⟩
 ·have hN2:2≤N:=by simp at hcap;omega
  have HN1:=zH hN1
  clear hN1
  go_enter Tryz.func15,Tryz.ntmps15
  go_wp2_with fail
  refine HS.out.mono ?_
  rintro e w1 ⟨rfl,rfl⟩
  go_wp2_with fail
  refine HD.out.mono ?_
  rintro e w2 ⟨rfl,q2,h2⟩
  have Q2:=zH (((Quiet.refl w).alloc (.cells (svls (pieces 32 s)).toArray 9)).trans q2)
  have H2:=zH (h2.eq (by ac_rfl:_=kst b bg told*(gld bg g*(wds (.slice (some ⟨w.heap.size,0,none⟩) (r.length+1) N) (x::r)*(lay w0*R)))))
  have hcx:w2.cell? ⟨w.heap.size,0,none⟩=some (.string (strOf x)):=wds_cells h2 0 x rfl
  clear h2 q2
  have hn0:¬ ((r.length:Int)+1)=0:=by omega
  have hn1:decide (((r.length:Int)+1)=0)=false:=by simpa using hn0
  simp only [List.length_cons,Int.natCast_add,Int.cast_ofNat_Int] at *
  go_wp2_with fail
  refine (node_no b bg told g _ (x::r) _ H2.out HG.out (by simp) (by have:=HWL.out;simp only [List.length_cons,List.length_nil] at this ⊢;omega) (fun y hy=>by have:=HZ.out y hy;omega) HN.out HQ.out (by omega)).mono ?_
  rintro e w3 ⟨rfl,q3,h3⟩
  have H3:=zH h3;have Q3:=zH (Q2.out.trans q3)
  have hcy:w3.cell? ⟨w.heap.size,0,none⟩=some (.string (strOf x)):=wds_cells h3.three 0 x rfl
  have hrow:=wds_rest h3.three rfl
  simp only [if_neg HN1.out] at hrow
  have HRR:=zH hrow
  clear h3 q3 hcx hrow
  go_wp2_with fail
  refine (numbers_no _ r _ (H3.out.eq (by ac_rfl:_=lay w0*(kst b bg told*(gld bg g*(wds (.slice (some ⟨w.heap.size,0,none⟩) (r.length+1) N) (x::r)*R))))) HRR.out (by have:=HWL.out;(try simp only [List.length_cons,List.length_nil] at this ⊢);omega) (fun y hy=>by have:=HZ.out y (List.mem_cons_of_mem _ hy);omega) HM.out).mono ?_
  rintro e w4 ⟨rfl,q4,h4⟩
  have H4:=zH (h4.eq (by ac_rfl:_=kst b bg told*(gld bg g*(wds (.slice (some ⟨w.heap.size,0,none⟩) (r.length+1) N) (x::r)*(lay w0*R)))));have Q4:=zH (Q3.out.trans q4)
  clear h4 q4
  go_wp2_with (go_at_call 28;refine (say_sl b bg told _ [tWhat] _ (H4.out.alloc (.cells (svls [tWhat]).toArray 9)) (svls_row rfl (by simp) _ rfl _) (by simp) (by simp) (by omega) what_len).mono ?_;rintro e w9 ⟨rfl,q9,h9⟩)
  rw [join_one'] at h9
  first|go_end0|((try simp only [Exit.inBlock,Exit.then]);refine bodyPost_ret (results_none rfl _ _ _) rfl ?_)
  exact ⟨rfl,(Q4.out.alloc _).trans q9,h9.three.right.eq (by ac_rfl)⟩
theorem line_step (b bg:Nat) (told:List UInt8) (g:Gld) (s:List UInt8) (x:List UInt8) (r:List (List UInt8)) (hw:words s=x::r) (hq:nodeReq (x::r)=none) (n:List Int) (hm:numsOf r=some n) (X:Stp) (hx:stepReq x n=some X) (w:World) {w0:World} {R:HP} (h:Holds w (kst b bg told*(gld bg g*(lay w0*R)))) (hg:g.Good) (hs:s.length≤9000) (ht:told.length≤200000000) :
  Calls Tryz.prog 15 #[.pointer (some ⟨b,0,none⟩),.string (strOf s)] w fun e w'=>e=.returned (.tuple #[])∧Quiet w w'∧Holds w' (kst b bg (told++line (ansTxt (g.step X).2 false))*(gld bg (g.step X).1*(lay w0*R))):=by
 have hsp:=split_sl s w (lay_laid h.three) (by omega)
 have hpl:=(pieces_len 32 s).1
 have hwl:=words_len s
 have hwz:=words_size s
 have hwn:=words_ne s
 have hd:=delete_sl (pieces 32 s) w.heap.size _ (by omega) (h.boxB (ty:=9) (cs:=svls (pieces 32 s)) rfl)
 rw [words_eq,hw] at hd
 rw [hw] at hwl hwz hwn
 have hcap:(x::r).length≤(pieces 32 s).length:=by
  have:=List.length_filter_le (fun x => !decide (x=[])) (pieces 32 s)
  rw [words_eq,hw] at this
  simpa using this
 obtain ⟨N,hN⟩:∃ N,(pieces 32 s).length=N:=⟨_,rfl⟩
 rw [hN] at hsp hd hcap hpl
 have HS:=zH hsp;have HD:=zH hd;have HG:=zH hg;have HZ:=zH hwz;have HN:=zH hwn;have HWL:=zH hwl
 clear h hsp hd hg hN hwz hwn hwl hw
 have HQ:=zH hq;have HM:=zH hm;have HX:=zH hx;clear hq hm hx
 by_cases hN1:N=1
 ·subst hN1
  obtain rfl:r=[]:=List.length_eq_zero_iff.1 (by have:=hcap;simp only [List.length_cons] at this;omega)
  go_enter Tryz.func15,Tryz.ntmps15
  go_wp2_with fail
  refine HS.out.mono ?_
  rintro e w1 ⟨rfl,rfl⟩
  go_wp2_with fail
  refine HD.out.mono ?_
  rintro e w2 ⟨rfl,q2,h2⟩
  have Q2:=zH (((Quiet.refl w).alloc (.cells (svls (pieces 32 s)).toArray 9)).trans q2)
  have H2:=zH (h2.eq (by ac_rfl:_=kst b bg told*(gld bg g*(wds (.slice (some ⟨w.heap.size,0,none⟩) 1 1) [x]*(lay w0*R)))))
  have hcx:w2.cell? ⟨w.heap.size,0,none⟩=some (.string (strOf x)):=wds_cells h2 0 x rfl
  clear h2 q2
  simp only [List.length_cons,List.length_nil,Nat.zero_add] at *
  go_wp2_with fail
  refine (node_no b bg told g _ [x] _ H2.out HG.out (by simp) (by have:=HWL.out;simp only [List.length_cons,List.length_nil] at this ⊢;omega) (fun y hy=>by have:=HZ.out y hy;omega) HN.out HQ.out (by omega)).mono ?_
  rintro e w3 ⟨rfl,q3,h3⟩
  have H3:=zH h3;have Q3:=zH (Q2.out.trans q3)
  have hcy:w3.cell? ⟨w.heap.size,0,none⟩=some (.string (strOf x)):=wds_cells h3.three 0 x rfl
  have hrow:=wds_rest h3.three rfl
  simp only [if_true,Nat.sub_self] at hrow
  have HRR:=zH hrow
  clear h3 q3 hcx hrow
  go_wp2_with fail
  refine (numbers_sl _ [] n _ (H3.out.eq (by ac_rfl:_=lay w0*(kst b bg told*(gld bg g*(wds (.slice (some ⟨w.heap.size,0,none⟩) 1 1) [x]*R))))) HRR.out (by have:=HWL.out;(try simp only [List.length_cons,List.length_nil] at this ⊢);omega) (fun y hy=>by have:=HZ.out y (List.mem_cons_of_mem _ hy);omega) HM.out).mono ?_
  rintro e w4 ⟨v4,rfl,q4,h4⟩
  replace h4:Holds w4 (inum v4 n*(lay w0*(kst b bg told*(gld bg g*(wds (.slice (some ⟨w.heap.size,0,none⟩) 1 1) [x]*R))))):=h4
  have hc4:w4.cell? ⟨w.heap.size,0,none⟩=some (.string (strOf x)):=wds_cells (h4.eq (by ac_rfl:_=wds (.slice (some ⟨w.heap.size,0,none⟩) 1 1) [x]*(inum v4 n*(lay w0*(kst b bg told*(gld bg g*R)))))) 0 x rfl
  have H4:=zH (h4.eq (by ac_rfl:_=kst b bg told*(gld bg g*(inum v4 n*(lay w0*(wds (.slice (some ⟨w.heap.size,0,none⟩) 1 1) [x]*R))))));have Q4:=zH (Q3.out.trans q4)
  clear h4 q4 hcy
  go_wp2_with fail
  refine (step_sl b bg told g v4 x n X _ H4.out HG.out (by omega) HX.out).mono ?_
  rintro e w5 ⟨rfl,q5,h5⟩
  have H5:=zH h5;have Q5:=zH (Q4.out.trans q5)
  clear h5 q5
  go_wp2
  first|go_end0|((try simp only [Exit.inBlock,Exit.then]);refine bodyPost_ret (results_none rfl _ _ _) rfl ?_)
  exact ⟨rfl,Q5.out,(H5.out.eq (by ac_rfl:_=inum v4 n*(wds (.slice (some ⟨w.heap.size,0,none⟩) 1 1) [x]*(kst b bg (told++line (ansTxt (g.step X).2 false))*(gld bg (g.step X).1*(lay w0*R)))))).right.right⟩
 ·have hN2:2≤N:=by simp at hcap;omega
  have HN1:=zH hN1
  clear hN1
  go_enter Tryz.func15,Tryz.ntmps15
  go_wp2_with fail
  refine HS.out.mono ?_
  rintro e w1 ⟨rfl,rfl⟩
  go_wp2_with fail
  refine HD.out.mono ?_
  rintro e w2 ⟨rfl,q2,h2⟩
  have Q2:=zH (((Quiet.refl w).alloc (.cells (svls (pieces 32 s)).toArray 9)).trans q2)
  have H2:=zH (h2.eq (by ac_rfl:_=kst b bg told*(gld bg g*(wds (.slice (some ⟨w.heap.size,0,none⟩) (r.length+1) N) (x::r)*(lay w0*R)))))
  have hcx:w2.cell? ⟨w.heap.size,0,none⟩=some (.string (strOf x)):=wds_cells h2 0 x rfl
  clear h2 q2
  have hn0:¬ ((r.length:Int)+1)=0:=by omega
  have hn1:decide (((r.length:Int)+1)=0)=false:=by simpa using hn0
  simp only [List.length_cons,Int.natCast_add,Int.cast_ofNat_Int] at *
  go_wp2_with fail
  refine (node_no b bg told g _ (x::r) _ H2.out HG.out (by simp) (by have:=HWL.out;simp only [List.length_cons,List.length_nil] at this ⊢;omega) (fun y hy=>by have:=HZ.out y hy;omega) HN.out HQ.out (by omega)).mono ?_
  rintro e w3 ⟨rfl,q3,h3⟩
  have H3:=zH h3;have Q3:=zH (Q2.out.trans q3)
  have hcy:w3.cell? ⟨w.heap.size,0,none⟩=some (.string (strOf x)):=wds_cells h3.three 0 x rfl
  have hrow:=wds_rest h3.three rfl
  simp only [if_neg HN1.out] at hrow
  have HRR:=zH hrow
  clear h3 q3 hcx hrow
  go_wp2_with fail
  refine (numbers_sl _ r n _ (H3.out.eq (by ac_rfl:_=lay w0*(kst b bg told*(gld bg g*(wds (.slice (some ⟨w.heap.size,0,none⟩) (r.length+1) N) (x::r)*R))))) HRR.out (by have:=HWL.out;(try simp only [List.length_cons,List.length_nil] at this ⊢);omega) (fun y hy=>by have:=HZ.out y (List.mem_cons_of_mem _ hy);omega) HM.out).mono ?_
  rintro e w4 ⟨v4,rfl,q4,h4⟩
  replace h4:Holds w4 (inum v4 n*(lay w0*(kst b bg told*(gld bg g*(wds (.slice (some ⟨w.heap.size,0,none⟩) (r.length+1) N) (x::r)*R))))):=h4
  have hc4:w4.cell? ⟨w.heap.size,0,none⟩=some (.string (strOf x)):=wds_cells (h4.eq (by ac_rfl:_=wds (.slice (some ⟨w.heap.size,0,none⟩) (r.length+1) N) (x::r)*(inum v4 n*(lay w0*(kst b bg told*(gld bg g*R)))))) 0 x rfl
  have H4:=zH (h4.eq (by ac_rfl:_=kst b bg told*(gld bg g*(inum v4 n*(lay w0*(wds (.slice (some ⟨w.heap.size,0,none⟩) (r.length+1) N) (x::r)*R))))));have Q4:=zH (Q3.out.trans q4)
  clear h4 q4 hcy
  go_wp2_with fail
  refine (step_sl b bg told g v4 x n X _ H4.out HG.out (by omega) HX.out).mono ?_
  rintro e w5 ⟨rfl,q5,h5⟩
  have H5:=zH h5;have Q5:=zH (Q4.out.trans q5)
  clear h5 q5
  go_wp2
  first|go_end0|((try simp only [Exit.inBlock,Exit.then]);refine bodyPost_ret (results_none rfl _ _ _) rfl ?_)
  exact ⟨rfl,Q5.out,(H5.out.eq (by ac_rfl:_=inum v4 n*(wds (.slice (some ⟨w.heap.size,0,none⟩) (r.length+1) N) (x::r)*(kst b bg (told++line (ansTxt (g.step X).2 false))*(gld bg (g.step X).1*(lay w0*R)))))).right.right⟩
theorem line_ask (b bg:Nat) (told:List UInt8) (g:Gld) (s:List UInt8) (x:List UInt8) (r:List (List UInt8)) (hw:words s=x::r) (hq:nodeReq (x::r)=none) (n:List Int) (hm:numsOf r=some n) (hx:stepReq x n=none) (ha:askReq x n≠.what) (w:World) {w0:World} {R:HP} (h:Holds w (kst b bg told*(gld bg g*(lay w0*R)))) (hg:g.Good) (hs:s.length≤9000) (ht:told.length≤200000000) :
  Calls Tryz.prog 15 #[.pointer (some ⟨b,0,none⟩),.string (strOf s)] w fun e w'=>e=.returned (.tuple #[])∧Quiet w w'∧Holds w' (kst b bg (told++(tell g (askReq x n)).2)*(gld bg (tell g (askReq x n)).1*(lay w0*R))):=by
 have hsp:=split_sl s w (lay_laid h.three) (by omega)
 have hpl:=(pieces_len 32 s).1
 have hwl:=words_len s
 have hwz:=words_size s
 have hwn:=words_ne s
 have hd:=delete_sl (pieces 32 s) w.heap.size _ (by omega) (h.boxB (ty:=9) (cs:=svls (pieces 32 s)) rfl)
 rw [words_eq,hw] at hd
 rw [hw] at hwl hwz hwn
 have hcap:(x::r).length≤(pieces 32 s).length:=by
  have:=List.length_filter_le (fun x => !decide (x=[])) (pieces 32 s)
  rw [words_eq,hw] at this
  simpa using this
 obtain ⟨N,hN⟩:∃ N,(pieces 32 s).length=N:=⟨_,rfl⟩
 rw [hN] at hsp hd hcap hpl
 have HS:=zH hsp;have HD:=zH hd;have HG:=zH hg;have HZ:=zH hwz;have HN:=zH hwn;have HWL:=zH hwl
 clear h hsp hd hg hN hwz hwn hwl hw
 have HQ:=zH hq;have HM:=zH hm;have HX:=zH hx;have HA:=zH ha;clear hq hm hx ha
 by_cases hN1:N=1
 ·subst hN1
  obtain rfl:r=[]:=List.length_eq_zero_iff.1 (by have:=hcap;simp only [List.length_cons] at this;omega)
  go_enter Tryz.func15,Tryz.ntmps15
  go_wp2_with fail
  refine HS.out.mono ?_
  rintro e w1 ⟨rfl,rfl⟩
  go_wp2_with fail
  refine HD.out.mono ?_
  rintro e w2 ⟨rfl,q2,h2⟩
  have Q2:=zH (((Quiet.refl w).alloc (.cells (svls (pieces 32 s)).toArray 9)).trans q2)
  have H2:=zH (h2.eq (by ac_rfl:_=kst b bg told*(gld bg g*(wds (.slice (some ⟨w.heap.size,0,none⟩) 1 1) [x]*(lay w0*R)))))
  have hcx:w2.cell? ⟨w.heap.size,0,none⟩=some (.string (strOf x)):=wds_cells h2 0 x rfl
  clear h2 q2
  simp only [List.length_cons,List.length_nil,Nat.zero_add] at *
  go_wp2_with fail
  refine (node_no b bg told g _ [x] _ H2.out HG.out (by simp) (by have:=HWL.out;simp only [List.length_cons,List.length_nil] at this ⊢;omega) (fun y hy=>by have:=HZ.out y hy;omega) HN.out HQ.out (by omega)).mono ?_
  rintro e w3 ⟨rfl,q3,h3⟩
  have H3:=zH h3;have Q3:=zH (Q2.out.trans q3)
  have hcy:w3.cell? ⟨w.heap.size,0,none⟩=some (.string (strOf x)):=wds_cells h3.three 0 x rfl
  have hrow:=wds_rest h3.three rfl
  simp only [if_true,Nat.sub_self] at hrow
  have HRR:=zH hrow
  clear h3 q3 hcx hrow
  go_wp2_with fail
  refine (numbers_sl _ [] n _ (H3.out.eq (by ac_rfl:_=lay w0*(kst b bg told*(gld bg g*(wds (.slice (some ⟨w.heap.size,0,none⟩) 1 1) [x]*R))))) HRR.out (by have:=HWL.out;(try simp only [List.length_cons,List.length_nil] at this ⊢);omega) (fun y hy=>by have:=HZ.out y (List.mem_cons_of_mem _ hy);omega) HM.out).mono ?_
  rintro e w4 ⟨v4,rfl,q4,h4⟩
  replace h4:Holds w4 (inum v4 n*(lay w0*(kst b bg told*(gld bg g*(wds (.slice (some ⟨w.heap.size,0,none⟩) 1 1) [x]*R))))):=h4
  have hc4:w4.cell? ⟨w.heap.size,0,none⟩=some (.string (strOf x)):=wds_cells (h4.eq (by ac_rfl:_=wds (.slice (some ⟨w.heap.size,0,none⟩) 1 1) [x]*(inum v4 n*(lay w0*(kst b bg told*(gld bg g*R)))))) 0 x rfl
  have H4:=zH (h4.eq (by ac_rfl:_=kst b bg told*(gld bg g*(inum v4 n*(lay w0*(wds (.slice (some ⟨w.heap.size,0,none⟩) 1 1) [x]*R))))));have Q4:=zH (Q3.out.trans q4)
  clear h4 q4 hcy
  go_wp2_with fail
  refine (step_no b v4 x n _ H4.out.three.row (HN.out x (List.mem_cons_self ..)) HX.out H4.out).mono ?_
  rintro e w5 ⟨rfl,q5,h5⟩
  have hc5:w5.cell? ⟨w.heap.size,0,none⟩=some (.string (strOf x)):=wds_cells (h5.eq (by ac_rfl:_=wds (.slice (some ⟨w.heap.size,0,none⟩) 1 1) [x]*(inum v4 n*(lay w0*(kst b bg told*(gld bg g*R)))))) 0 x rfl
  have H5:=zH h5;have Q5:=zH (Q4.out.trans q5)
  clear h5 q5 hc4
  go_wp2_with fail
  refine (ask_sl b bg told g v4 x n _ H5.out HG.out (by omega) HA.out).mono ?_
  rintro e w6 ⟨rfl,q6,h6⟩
  have H6:=zH h6;have Q6:=zH (Q5.out.trans q6)
  clear h6 q6
  go_wp2
  first|go_end0|((try simp only [Exit.inBlock,Exit.then]);refine bodyPost_ret (results_none rfl _ _ _) rfl ?_)
  exact ⟨rfl,Q6.out,(H6.out.eq (by ac_rfl:_=inum v4 n*(wds (.slice (some ⟨w.heap.size,0,none⟩) 1 1) [x]*(kst b bg (told++(tell g (askReq x n)).2)*(gld bg (tell g (askReq x n)).1*(lay w0*R)))))).right.right⟩
 ·have hN2:2≤N:=by simp at hcap;omega
  have HN1:=zH hN1
  clear hN1
  go_enter Tryz.func15,Tryz.ntmps15
  go_wp2_with fail
  refine HS.out.mono ?_
  rintro e w1 ⟨rfl,rfl⟩
  go_wp2_with fail
  refine HD.out.mono ?_
  rintro e w2 ⟨rfl,q2,h2⟩
  have Q2:=zH (((Quiet.refl w).alloc (.cells (svls (pieces 32 s)).toArray 9)).trans q2)
  have H2:=zH (h2.eq (by ac_rfl:_=kst b bg told*(gld bg g*(wds (.slice (some ⟨w.heap.size,0,none⟩) (r.length+1) N) (x::r)*(lay w0*R)))))
  have hcx:w2.cell? ⟨w.heap.size,0,none⟩=some (.string (strOf x)):=wds_cells h2 0 x rfl
  clear h2 q2
  have hn0:¬ ((r.length:Int)+1)=0:=by omega
  have hn1:decide (((r.length:Int)+1)=0)=false:=by simpa using hn0
  simp only [List.length_cons,Int.natCast_add,Int.cast_ofNat_Int] at *
  go_wp2_with fail
  refine (node_no b bg told g _ (x::r) _ H2.out HG.out (by simp) (by have:=HWL.out;simp only [List.length_cons,List.length_nil] at this ⊢;omega) (fun y hy=>by have:=HZ.out y hy;omega) HN.out HQ.out (by omega)).mono ?_
  rintro e w3 ⟨rfl,q3,h3⟩
  have H3:=zH h3;have Q3:=zH (Q2.out.trans q3)
  have hcy:w3.cell? ⟨w.heap.size,0,none⟩=some (.string (strOf x)):=wds_cells h3.three 0 x rfl
  have hrow:=wds_rest h3.three rfl
  simp only [if_neg HN1.out] at hrow
  have HRR:=zH hrow
  clear h3 q3 hcx hrow
  go_wp2_with fail
  refine (numbers_sl _ r n _ (H3.out.eq (by ac_rfl:_=lay w0*(kst b bg told*(gld bg g*(wds (.slice (some ⟨w.heap.size,0,none⟩) (r.length+1) N) (x::r)*R))))) HRR.out (by have:=HWL.out;(try simp only [List.length_cons,List.length_nil] at this ⊢);omega) (fun y hy=>by have:=HZ.out y (List.mem_cons_of_mem _ hy);omega) HM.out).mono ?_
  rintro e w4 ⟨v4,rfl,q4,h4⟩
  replace h4:Holds w4 (inum v4 n*(lay w0*(kst b bg told*(gld bg g*(wds (.slice (some ⟨w.heap.size,0,none⟩) (r.length+1) N) (x::r)*R))))):=h4
  have hc4:w4.cell? ⟨w.heap.size,0,none⟩=some (.string (strOf x)):=wds_cells (h4.eq (by ac_rfl:_=wds (.slice (some ⟨w.heap.size,0,none⟩) (r.length+1) N) (x::r)*(inum v4 n*(lay w0*(kst b bg told*(gld bg g*R)))))) 0 x rfl
  have H4:=zH (h4.eq (by ac_rfl:_=kst b bg told*(gld bg g*(inum v4 n*(lay w0*(wds (.slice (some ⟨w.heap.size,0,none⟩) (r.length+1) N) (x::r)*R))))));have Q4:=zH (Q3.out.trans q4)
  clear h4 q4 hcy
  go_wp2_with fail
  refine (step_no b v4 x n _ H4.out.three.row (HN.out x (List.mem_cons_self ..)) HX.out H4.out).mono ?_
  rintro e w5 ⟨rfl,q5,h5⟩
  have hc5:w5.cell? ⟨w.heap.size,0,none⟩=some (.string (strOf x)):=wds_cells (h5.eq (by ac_rfl:_=wds (.slice (some ⟨w.heap.size,0,none⟩) (r.length+1) N) (x::r)*(inum v4 n*(lay w0*(kst b bg told*(gld bg g*R)))))) 0 x rfl
  have H5:=zH h5;have Q5:=zH (Q4.out.trans q5)
  clear h5 q5 hc4
  go_wp2_with fail
  refine (ask_sl b bg told g v4 x n _ H5.out HG.out (by omega) HA.out).mono ?_
  rintro e w6 ⟨rfl,q6,h6⟩
  have H6:=zH h6;have Q6:=zH (Q5.out.trans q6)
  clear h6 q6
  go_wp2
  first|go_end0|((try simp only [Exit.inBlock,Exit.then]);refine bodyPost_ret (results_none rfl _ _ _) rfl ?_)
  exact ⟨rfl,Q6.out,(H6.out.eq (by ac_rfl:_=inum v4 n*(wds (.slice (some ⟨w.heap.size,0,none⟩) (r.length+1) N) (x::r)*(kst b bg (told++(tell g (askReq x n)).2)*(gld bg (tell g (askReq x n)).1*(lay w0*R)))))).right.right⟩
theorem line_what (b bg:Nat) (told:List UInt8) (g:Gld) (s:List UInt8) (x:List UInt8) (r:List (List UInt8)) (hw:words s=x::r) (hq:nodeReq (x::r)=none) (n:List Int) (hm:numsOf r=some n) (hx:stepReq x n=none) (ha:askReq x n=.what) (w:World) {w0:World} {R:HP} (h:Holds w (kst b bg told*(gld bg g*(lay w0*R)))) (hg:g.Good) (hs:s.length≤9000) (ht:told.length≤200000000) :
  Calls Tryz.prog 15 #[.pointer (some ⟨b,0,none⟩),.string (strOf s)] w fun e w'=>e=.returned (.tuple #[])∧Quiet w w'∧Holds w' (kst b bg (told++line tWhat)*(gld bg g*(lay w0*R))):=by
 have hsp:=split_sl s w (lay_laid h.three) (by omega)
 have hpl:=(pieces_len 32 s).1
 have hwl:=words_len s
 have hwz:=words_size s
 have hwn:=words_ne s
 have hd:=delete_sl (pieces 32 s) w.heap.size _ (by omega) (h.boxB (ty:=9) (cs:=svls (pieces 32 s)) rfl)
 rw [words_eq,hw] at hd
 rw [hw] at hwl hwz hwn
 have hcap:(x::r).length≤(pieces 32 s).length:=by
  have:=List.length_filter_le (fun x => !decide (x=[])) (pieces 32 s)
  rw [words_eq,hw] at this
  simpa using this
 obtain ⟨N,hN⟩:∃ N,(pieces 32 s).length=N:=⟨_,rfl⟩
 rw [hN] at hsp hd hcap hpl
 have HS:=zH hsp;have HD:=zH hd;have HG:=zH hg;have HZ:=zH hwz;have HN:=zH hwn;have HWL:=zH hwl
 clear h hsp hd hg hN hwz hwn hwl hw
 have HQ:=zH hq;have HM:=zH hm;have HX:=zH hx;have HA:=zH ha;clear hq hm hx ha
 by_cases hN1:N=1
 ·subst hN1
  obtain rfl:r=[]:=List.length_eq_zero_iff.1 (by have:=hcap;simp only [List.length_cons] at this;omega)
  go_enter Tryz.func15,Tryz.ntmps15
  go_wp2_with fail
  refine HS.out.mono ?_
  rintro e w1 ⟨rfl,rfl⟩
  go_wp2_with fail
  refine HD.out.mono ?_
  rintro e w2 ⟨rfl,q2,h2⟩
  have Q2:=zH (((Quiet.refl w).alloc (.cells (svls (pieces 32 s)).toArray 9)).trans q2)
  have H2:=zH (h2.eq (by ac_rfl:_=kst b bg told*(gld bg g*(wds (.slice (some ⟨w.heap.size,0,none⟩) 1 1) [x]*(lay w0*R)))))
  have hcx:w2.cell? ⟨w.heap.size,0,none⟩=some (.string (strOf x)):=wds_cells h2 0 x rfl
  clear h2 q2
  simp only [List.length_cons,List.length_nil,Nat.zero_add] at *
  go_wp2_with fail
  refine (node_no b bg told g _ [x] _ H2.out HG.out (by simp) (by have:=HWL.out;simp only [List.length_cons,List.length_nil] at this ⊢;omega) (fun y hy=>by have:=HZ.out y hy;omega) HN.out HQ.out (by omega)).mono ?_
  rintro e w3 ⟨rfl,q3,h3⟩
  have H3:=zH h3;have Q3:=zH (Q2.out.trans q3)
  have hcy:w3.cell? ⟨w.heap.size,0,none⟩=some (.string (strOf x)):=wds_cells h3.three 0 x rfl
  have hrow:=wds_rest h3.three rfl
  simp only [if_true,Nat.sub_self] at hrow
  have HRR:=zH hrow
  clear h3 q3 hcx hrow
  go_wp2_with fail
  refine (numbers_sl _ [] n _ (H3.out.eq (by ac_rfl:_=lay w0*(kst b bg told*(gld bg g*(wds (.slice (some ⟨w.heap.size,0,none⟩) 1 1) [x]*R))))) HRR.out (by have:=HWL.out;(try simp only [List.length_cons,List.length_nil] at this ⊢);omega) (fun y hy=>by have:=HZ.out y (List.mem_cons_of_mem _ hy);omega) HM.out).mono ?_
  rintro e w4 ⟨v4,rfl,q4,h4⟩
  replace h4:Holds w4 (inum v4 n*(lay w0*(kst b bg told*(gld bg g*(wds (.slice (some ⟨w.heap.size,0,none⟩) 1 1) [x]*R))))):=h4
  have hc4:w4.cell? ⟨w.heap.size,0,none⟩=some (.string (strOf x)):=wds_cells (h4.eq (by ac_rfl:_=wds (.slice (some ⟨w.heap.size,0,none⟩) 1 1) [x]*(inum v4 n*(lay w0*(kst b bg told*(gld bg g*R)))))) 0 x rfl
  have H4:=zH (h4.eq (by ac_rfl:_=kst b bg told*(gld bg g*(inum v4 n*(lay w0*(wds (.slice (some ⟨w.heap.size,0,none⟩) 1 1) [x]*R))))));have Q4:=zH (Q3.out.trans q4)
  clear h4 q4 hcy
  go_wp2_with fail
  refine (step_no b v4 x n _ H4.out.three.row (HN.out x (List.mem_cons_self ..)) HX.out H4.out).mono ?_
  rintro e w5 ⟨rfl,q5,h5⟩
  have hc5:w5.cell? ⟨w.heap.size,0,none⟩=some (.string (strOf x)):=wds_cells (h5.eq (by ac_rfl:_=wds (.slice (some ⟨w.heap.size,0,none⟩) 1 1) [x]*(inum v4 n*(lay w0*(kst b bg told*(gld bg g*R)))))) 0 x rfl
  have H5:=zH h5;have Q5:=zH (Q4.out.trans q5)
  clear h5 q5 hc4
  go_wp2_with fail
  refine (ask_no b v4 x n _ H5.out.three.row HA.out H5.out).mono ?_
  rintro e w6 ⟨rfl,q6,h6⟩
  have H6:=zH h6;have Q6:=zH (Q5.out.trans q6)
  clear h6 q6
  go_wp2_with (go_at_call 28;refine (say_sl b bg told _ [tWhat] _ (H6.out.alloc (.cells (svls [tWhat]).toArray 9)) (svls_row rfl (by simp) _ rfl _) (by simp) (by simp) (by omega) what_len).mono ?_;rintro e w9 ⟨rfl,q9,h9⟩)
  rw [join_one'] at h9
  first|go_end0|((try simp only [Exit.inBlock,Exit.then]);refine bodyPost_ret (results_none rfl _ _ _) rfl ?_)
  exact ⟨rfl,(Q6.out.alloc _).trans q9,(h9.eq (by ac_rfl:_=inum v4 n*(wds (.slice (some ⟨w.heap.size,0,none⟩) 1 1) [x]*(kst b bg (told++line tWhat)*(gld bg g*(lay w0*R)))))).right.right⟩
 ·have hN2:2≤N:=by simp at hcap;omega
  have HN1:=zH hN1
  clear hN1
  go_enter Tryz.func15,Tryz.ntmps15
  go_wp2_with fail
  refine HS.out.mono ?_
  rintro e w1 ⟨rfl,rfl⟩
  go_wp2_with fail
  refine HD.out.mono ?_
  rintro e w2 ⟨rfl,q2,h2⟩
  have Q2:=zH (((Quiet.refl w).alloc (.cells (svls (pieces 32 s)).toArray 9)).trans q2)
  have H2:=zH (h2.eq (by ac_rfl:_=kst b bg told*(gld bg g*(wds (.slice (some ⟨w.heap.size,0,none⟩) (r.length+1) N) (x::r)*(lay w0*R)))))
  have hcx:w2.cell? ⟨w.heap.size,0,none⟩=some (.string (strOf x)):=wds_cells h2 0 x rfl
  clear h2 q2
  have hn0:¬ ((r.length:Int)+1)=0:=by omega
  have hn1:decide (((r.length:Int)+1)=0)=false:=by simpa using hn0
  simp only [List.length_cons,Int.natCast_add,Int.cast_ofNat_Int] at *
  go_wp2_with fail
  refine (node_no b bg told g _ (x::r) _ H2.out HG.out (by simp) (by have:=HWL.out;simp only [List.length_cons,List.length_nil] at this ⊢;omega) (fun y hy=>by have:=HZ.out y hy;omega) HN.out HQ.out (by omega)).mono ?_
  rintro e w3 ⟨rfl,q3,h3⟩
  have H3:=zH h3;have Q3:=zH (Q2.out.trans q3)
  have hcy:w3.cell? ⟨w.heap.size,0,none⟩=some (.string (strOf x)):=wds_cells h3.three 0 x rfl
  have hrow:=wds_rest h3.three rfl
  simp only [if_neg HN1.out] at hrow
  have HRR:=zH hrow
  clear h3 q3 hcx hrow
  go_wp2_with fail
  refine (numbers_sl _ r n _ (H3.out.eq (by ac_rfl:_=lay w0*(kst b bg told*(gld bg g*(wds (.slice (some ⟨w.heap.size,0,none⟩) (r.length+1) N) (x::r)*R))))) HRR.out (by have:=HWL.out;(try simp only [List.length_cons,List.length_nil] at this ⊢);omega) (fun y hy=>by have:=HZ.out y (List.mem_cons_of_mem _ hy);omega) HM.out).mono ?_
  rintro e w4 ⟨v4,rfl,q4,h4⟩
  replace h4:Holds w4 (inum v4 n*(lay w0*(kst b bg told*(gld bg g*(wds (.slice (some ⟨w.heap.size,0,none⟩) (r.length+1) N) (x::r)*R))))):=h4
  have hc4:w4.cell? ⟨w.heap.size,0,none⟩=some (.string (strOf x)):=wds_cells (h4.eq (by ac_rfl:_=wds (.slice (some ⟨w.heap.size,0,none⟩) (r.length+1) N) (x::r)*(inum v4 n*(lay w0*(kst b bg told*(gld bg g*R)))))) 0 x rfl
  have H4:=zH (h4.eq (by ac_rfl:_=kst b bg told*(gld bg g*(inum v4 n*(lay w0*(wds (.slice (some ⟨w.heap.size,0,none⟩) (r.length+1) N) (x::r)*R))))));have Q4:=zH (Q3.out.trans q4)
  clear h4 q4 hcy
  go_wp2_with fail
  refine (step_no b v4 x n _ H4.out.three.row (HN.out x (List.mem_cons_self ..)) HX.out H4.out).mono ?_
  rintro e w5 ⟨rfl,q5,h5⟩
  have hc5:w5.cell? ⟨w.heap.size,0,none⟩=some (.string (strOf x)):=wds_cells (h5.eq (by ac_rfl:_=wds (.slice (some ⟨w.heap.size,0,none⟩) (r.length+1) N) (x::r)*(inum v4 n*(lay w0*(kst b bg told*(gld bg g*R)))))) 0 x rfl
  have H5:=zH h5;have Q5:=zH (Q4.out.trans q5)
  clear h5 q5 hc4
  go_wp2_with fail
  refine (ask_no b v4 x n _ H5.out.three.row HA.out H5.out).mono ?_
  rintro e w6 ⟨rfl,q6,h6⟩
  have H6:=zH h6;have Q6:=zH (Q5.out.trans q6)
  clear h6 q6
  go_wp2_with (go_at_call 28;refine (say_sl b bg told _ [tWhat] _ (H6.out.alloc (.cells (svls [tWhat]).toArray 9)) (svls_row rfl (by simp) _ rfl _) (by simp) (by simp) (by omega) what_len).mono ?_;rintro e w9 ⟨rfl,q9,h9⟩)
  rw [join_one'] at h9
  first|go_end0|((try simp only [Exit.inBlock,Exit.then]);refine bodyPost_ret (results_none rfl _ _ _) rfl ?_)
  exact ⟨rfl,(Q6.out.alloc _).trans q9,(h9.eq (by ac_rfl:_=inum v4 n*(wds (.slice (some ⟨w.heap.size,0,none⟩) (r.length+1) N) (x::r)*(kst b bg (told++line tWhat)*(gld bg g*(lay w0*R)))))).right.right⟩
theorem line_sl (b bg:Nat) (told:List UInt8) (g:Gld) (s:List UInt8) (w:World) {w0:World} {R:HP} (h:Holds w (kst b bg told*(gld bg g*(lay w0*R)))) (hg:g.Good) (hs:s.length≤9000) (ht:told.length≤200000000) :
  Calls Tryz.prog 15 #[.pointer (some ⟨b,0,none⟩),.string (strOf s)] w fun e w'=>e=.returned (.tuple #[])∧Quiet w w'∧Holds w' (kst b bg (told++(tellL g s).2)*(gld bg (tellL g s).1*(lay w0*R))):=by
 unfold tellL
 cases hw:words s with
 | nil=>exact line_none b bg told g s hw w h hg hs ht
 | cons x r=>
  cases hq:nodeReq (x::r) with
  | some y=>
   rw [show reqOf (x::r)=.step y.1 y.2 by simp only [reqOf,hq]]
   exact line_node b bg told g s x r hw y.1 y.2 hq w h hg hs ht
  | none=>
   cases hm:numsOf r with
   | none=>
    rw [show reqOf (x::r)=.what by simp only [reqOf,hq,hm]]
    exact line_bad b bg told g s x r hw hq hm w h hg hs ht
   | some n=>
    cases hx:stepReq x n with
    | some X=>
     rw [show reqOf (x::r)=.step X false by simp only [reqOf,hq,hm,hx]]
     exact line_step b bg told g s x r hw hq n hm X hx w h hg hs ht
    | none=>
     rw [show reqOf (x::r)=askReq x n by simp only [reqOf,hq,hm,hx]]
     by_cases ha:askReq x n=.what
     ·rw [ha]
      exact line_what b bg told g s x r hw hq n hm hx ha w h hg hs ht
     ·exact line_ask b bg told g s x r hw hq n hm hx ha w h hg hs ht
end Go.Proofs.YtfihmpkkpgmdhaaGreatDoor
