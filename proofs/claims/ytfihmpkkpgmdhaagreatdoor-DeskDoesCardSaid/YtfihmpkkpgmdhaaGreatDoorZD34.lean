/-
  What the proof of DeskDoes leans on: definitions, laws, contracts of functions. No condition besides those that each theorem names.
-/
import Derived.Test.YtfihmpkkpgmdhaaGreatDoorZD31
import Derived.Test.YtfihmpkkpgmdhaaGreatDoorZD24
import Derived.Test.YtfihmpkkpgmdhaaGreatDoorZD21
set_option maxRecDepth 100000
set_option maxHeartbeats 16000000
set_option linter.unusedVariables false
set_option linter.unusedSimpArgs false
set_option linter.unnecessarySimpa false
namespace Go.Proofs.YtfihmpkkpgmdhaaGreatDoor
open Go.RowKit
open List renaming setIfInBounds_toArray → zA, set_cons_zero → zB, set_cons_succ → zC
open Go.Act renaming put → zP
open Go.Lib renaming hid → zH
open Go.Value renaming int → zI
open Go.IntKind renaming i64 → zi
theorem sms_i64 {l:List Int} (h:∀ n∈l,Sm n):∀ n∈l,I64' n:=fun n hn=>(h n hn).big
theorem askno_Job (b:Nat) (v:Value) (l:List Int) (hne:l.length≠2) (w:World) (hv:RowAt w v l.length (ivs l)) :
  Calls Tryz.prog 27 #[.pointer (some ⟨b,0,none⟩),.string (strOf tJob),v] w fun e w'=>e=.returned (.bool false)∧w'=w:=by
 obtain ⟨va,vc,rfl,-,-⟩:=hv.shape
 have hb0:=bytes_yes tJob
 have hb1:=bytes_no (show tJob≠tDisk by decide)
 have hb2:=bytes_no (show tJob≠tLog by decide)
 have hb3:=bytes_no (show tJob≠tHolders by decide)
 have hn0:¬ (l.length:Int)=2:=by omega
 have hn1:((l.length:Int)==2)=false:=by simpa using hn0
 obtain ⟨T,hT⟩:∃ T,strOf tJob=T:=⟨_,rfl⟩
 rw [hT] at hb0 hb1 hb2 hb3 ⊢
 simp only [tJob,tDisk,tLog,tHolders] at hb0 hb1 hb2 hb3
 clear hT hv
 go_enter Tryz.func27,Tryz.ntmps27
 go_wp2
 go_ret
 exact ⟨rfl,rfl⟩
theorem askno_Disk (b:Nat) (v:Value) (l:List Int) (hne:l.length≠0) (w:World) (hv:RowAt w v l.length (ivs l)) :
  Calls Tryz.prog 27 #[.pointer (some ⟨b,0,none⟩),.string (strOf tDisk),v] w fun e w'=>e=.returned (.bool false)∧w'=w:=by
 obtain ⟨va,vc,rfl,-,-⟩:=hv.shape
 have hb0:=bytes_no (show tDisk≠tJob by decide)
 have hb1:=bytes_yes tDisk
 have hb2:=bytes_no (show tDisk≠tLog by decide)
 have hb3:=bytes_no (show tDisk≠tHolders by decide)
 have hn0:¬ (l.length:Int)=0:=by omega
 have hn1:((l.length:Int)==0)=false:=by simpa using hn0
 obtain ⟨T,hT⟩:∃ T,strOf tDisk=T:=⟨_,rfl⟩
 rw [hT] at hb0 hb1 hb2 hb3 ⊢
 simp only [tJob,tDisk,tLog,tHolders] at hb0 hb1 hb2 hb3
 clear hT hv
 go_enter Tryz.func27,Tryz.ntmps27
 go_wp2
 go_ret
 exact ⟨rfl,rfl⟩
theorem askno_Log (b:Nat) (v:Value) (l:List Int) (hne:l.length≠0) (w:World) (hv:RowAt w v l.length (ivs l)) :
  Calls Tryz.prog 27 #[.pointer (some ⟨b,0,none⟩),.string (strOf tLog),v] w fun e w'=>e=.returned (.bool false)∧w'=w:=by
 obtain ⟨va,vc,rfl,-,-⟩:=hv.shape
 have hb0:=bytes_no (show tLog≠tJob by decide)
 have hb1:=bytes_no (show tLog≠tDisk by decide)
 have hb2:=bytes_yes tLog
 have hb3:=bytes_no (show tLog≠tHolders by decide)
 have hn0:¬ (l.length:Int)=0:=by omega
 have hn1:((l.length:Int)==0)=false:=by simpa using hn0
 obtain ⟨T,hT⟩:∃ T,strOf tLog=T:=⟨_,rfl⟩
 rw [hT] at hb0 hb1 hb2 hb3 ⊢
 simp only [tJob,tDisk,tLog,tHolders] at hb0 hb1 hb2 hb3
 clear hT hv
 go_enter Tryz.func27,Tryz.ntmps27
 go_wp2
 go_ret
 exact ⟨rfl,rfl⟩
theorem askno_Holders (b:Nat) (v:Value) (l:List Int) (hne:l.length≠1) (w:World) (hv:RowAt w v l.length (ivs l)) :
  Calls Tryz.prog 27 #[.pointer (some ⟨b,0,none⟩),.string (strOf tHolders),v] w fun e w'=>e=.returned (.bool false)∧w'=w:=by
 obtain ⟨va,vc,rfl,-,-⟩:=hv.shape
 have hb0:=bytes_no (show tHolders≠tJob by decide)
 have hb1:=bytes_no (show tHolders≠tDisk by decide)
 have hb2:=bytes_no (show tHolders≠tLog by decide)
 have hb3:=bytes_yes tHolders
 have hn0:¬ (l.length:Int)=1:=by omega
 have hn1:((l.length:Int)==1)=false:=by simpa using hn0
 obtain ⟨T,hT⟩:∃ T,strOf tHolders=T:=⟨_,rfl⟩
 rw [hT] at hb0 hb1 hb2 hb3 ⊢
 simp only [tJob,tDisk,tLog,tHolders] at hb0 hb1 hb2 hb3
 clear hT hv
 go_enter Tryz.func27,Tryz.ntmps27
 go_wp2
 go_ret
 exact ⟨rfl,rfl⟩
theorem askno_none (b:Nat) (v:Value) (l:List Int) (x:List UInt8) (h0:x≠tJob) (h1:x≠tDisk) (h2:x≠tLog) (h3:x≠tHolders) (w:World) (hv:RowAt w v l.length (ivs l)) :
  Calls Tryz.prog 27 #[.pointer (some ⟨b,0,none⟩),.string (strOf x),v] w fun e w'=>e=.returned (.bool false)∧w'=w:=by
 obtain ⟨va,vc,rfl,-,-⟩:=hv.shape
 have hb0:=bytes_no h0
 have hb1:=bytes_no h1
 have hb2:=bytes_no h2
 have hb3:=bytes_no h3
 obtain ⟨T,hT⟩:∃ T,strOf x=T:=⟨_,rfl⟩
 rw [hT] at hb0 hb1 hb2 hb3 ⊢
 simp only [tJob,tDisk,tLog,tHolders] at hb0 hb1 hb2 hb3
 clear hT hv
 go_enter Tryz.func27,Tryz.ntmps27
 go_wp2
 go_ret
 exact ⟨rfl,rfl⟩
theorem ask_no (b:Nat) (v:Value) (x:List UInt8) (l:List Int) (w:World) (hv:RowAt w v l.length (ivs l)) (hq:askReq x l=.what) {R:HP} (h:Holds w R) :
  Calls Tryz.prog 27 #[.pointer (some ⟨b,0,none⟩),.string (strOf x),v] w fun e w'=>e=.returned (.bool false)∧Quiet w w'∧Holds w' R:=by
 have fin:(Calls Tryz.prog 27 #[.pointer (some ⟨b,0,none⟩),.string (strOf x),v] w fun e w'=>e=.returned (.bool false)∧w'=w)→Calls Tryz.prog 27 #[.pointer (some ⟨b,0,none⟩),.string (strOf x),v] w fun e w'=>e=.returned (.bool false)∧Quiet w w'∧Holds w' R:=
  fun hc=>hc.mono fun e w' ⟨he,hw⟩=>⟨he,hw▸Quiet.refl _,hw▸h⟩
 refine fin ?_
 by_cases e1:x=tJob
 ·subst e1
  refine askno_Job b v l (fun hn=>?_) w hv
  match l,hn with
  | [a,c],_=>simp [askReq] at hq
 by_cases e2:x=tDisk
 ·subst e2
  refine askno_Disk b v l (fun hn=>?_) w hv
  obtain rfl:=List.length_eq_zero_iff.1 hn
  simp [askReq] at hq
 by_cases e3:x=tLog
 ·subst e3
  refine askno_Log b v l (fun hn=>?_) w hv
  obtain rfl:=List.length_eq_zero_iff.1 hn
  simp [askReq,e2] at hq
 by_cases e4:x=tHolders
 ·subst e4
  refine askno_Holders b v l (fun hn=>?_) w hv
  match l,hn with
  | [a],_=>simp [askReq] at hq
 exact askno_none b v l x e1 e2 e3 e4 w hv
theorem gat_none {w:World} {A R:HP} {bd:Nat} {vs:Nat→Value} {f:Nat→Option Nod} {n:Int} (h:Holds w (nodes3 bd vs f*(A*R))) (hf:(if n<0∨3≤n then none else f n.toNat)=none):gAt vs n=.pointer none:=by
 unfold gAt
 split at hf
 ·rename_i hn;rw [if_pos hn]
 ·rename_i hn
  rw [if_neg hn]
  exact pick_none (A:=HP.emp) (B:=HP.emp) (emp_mul (emp_mul h)) (by omega) hf
theorem gat_some {w:World} {A R:HP} {bd:Nat} {vs:Nat→Value} {f:Nat→Option Nod} {n:Int} {nd:Nod} (h:Holds w (nodes3 bd vs f*(A*R))) (hf:(if n<0∨3≤n then none else f n.toNat)=some nd):n.toNat<3∧f n.toNat=some nd∧∃ bn:Nat,gAt vs n=.pointer (some ⟨bn,0,none⟩)∧vs n.toNat=.pointer (some ⟨bn,0,none⟩):=by
 unfold gAt
 split at hf
 ·cases hf
 ·rename_i hn
  rw [if_neg hn]
  obtain ⟨bn,e,_⟩:=pick_some (A:=HP.emp) (B:=HP.emp) (emp_mul (emp_mul h)) (show n.toNat<3 by omega) hf
  exact ⟨by omega,hf,bn,e,e⟩
theorem ask_job_none (b bg bd:Nat) (vs:Nat→Value) (told:List UInt8) (d:Dsk) (f:Nat→Option Nod) (now:Int) (v:Value) (n j:Int) (w:World) {w0:World} {R:HP}
  (h:Holds w (kst b bg told*(gblk bg bd vs now*(dsk bd d*(nodes3 bd vs f*(inum v [n,j]*(lay w0*R))))))) (hf:(if n<0∨3≤n then none else f n.toNat)=none) (ht:told.length≤300000000) :
  Calls Tryz.prog 27 #[.pointer (some ⟨b,0,none⟩),.string (strOf tJob),v] w fun e w'=>e=.returned (.bool true)∧Quiet w w'∧Holds w' (kst b bg (told++line (tNo++nums [5]))*(gblk bg bd vs now*(dsk bd d*(nodes3 bd vs f*(inum v [n,j]*(lay w0*R)))))):=by
 obtain ⟨gn,cn,rfl,d1,d2⟩:=inum_cons (h.eq (by ac_rfl:_=inum v [n,j]*(kst b bg told*(gblk bg bd vs now*(dsk bd d*(nodes3 bd vs f*(lay w0*R)))))))
 simp only [List.length_cons,List.length_nil,Nat.zero_add] at d1 h ⊢
 have HN:=zH (gat_none h.four hf)
 clear hf
 have hbJ:=bytes_yes tJob
 obtain ⟨T,hT⟩:∃ T,strOf tJob=T:=⟨_,rfl⟩
 rw [hT] at hbJ ⊢
 simp only [tJob] at hbJ
 have HT:=zH hT
 have H0:=zH (h.eq (by ac_rfl:_=gblk bg bd vs now*(kst b bg told*(inum (.slice (some ⟨gn,0,none⟩) 2 cn) [n,j]*(dsk bd d*(nodes3 bd vs f*(lay w0*R)))))))
 clear h hT
 have mkS:∀ (W:World) (td:List UInt8) (A B:HP),Holds W (A*(kst b bg td*(inum (.slice (some ⟨gn,0,none⟩) 2 cn) [n,j]*B)))→W.cell? ⟨b,2,none⟩=some (.pointer (some ⟨bg,0,none⟩))∧W.cell? ⟨gn,0,none⟩=some (zI zi n)∧W.cell? ⟨gn,1,none⟩=some (zI zi j):=fun W td A B h=>⟨kst_bg h.two,inum_cell h.three 0 _ rfl,inum_cell h.three 1 _ rfl⟩
 have MKS:=zH mkS
 clear mkS
 go_enter Tryz.func27,Tryz.ntmps27
 go_wp2_with fail
 refine wp_region_lex (fun W=>W.cell? ⟨b,2,none⟩=some (.pointer (some ⟨bg,0,none⟩))∧W.cell? ⟨gn,0,none⟩=some (zI zi n)∧W.cell? ⟨gn,1,none⟩=some (zI zi j)) [7] (by kernel_rfl) (by kernel_rfl) (MKS.out _ _ _ _ H0.out.drew) ?_
 repeat (first|(refine LexL.none (by rfl) ?_;(try simp only [zP,zA,zB,zC]))|(refine LexL.still (v:=?_) (by rfl) ?_ ?_;rotate_left;(focus (intro W hW;(try dsimp only at hW);go_simp;(try (with_reducible rfl));done));(try simp only [zP,zA,zB,zC])))
 refine LexL.call (f:=47) (args:=#[.pointer (some ⟨bg,0,none⟩),zI zi n]) (w1:=w.drew) (by rfl) (by decide) (by go_simp) ?_
 refine (gNode_sl bg bd vs now n _ H0.out.drew).mono ?_
 rintro e w1 ⟨rfl,rfl⟩
 rw [HN.out]
 refine ⟨_,rfl,MKS.out _ _ _ _ H0.out.drew,?_⟩
 try simp only [zP,zA,zB,zC]
 repeat (first|(refine LexL.none (by rfl) ?_;(try simp only [zP,zA,zB,zC]))|(refine LexL.still (v:=?_) (by rfl) ?_ ?_;rotate_left;(focus (intro W hW;(try dsimp only at hW);go_simp;(try (with_reducible rfl));done));(try simp only [zP,zA,zB,zC])))
 refine LexL.done ?_
 go_wp2_with fail
 refine (num_sl 5 _ (lay_laid (H0.out.drew.eq (by ac_rfl:_=lay w0*(gblk bg bd vs now*(kst b bg told*(inum (.slice (some ⟨gn,0,none⟩) 2 cn) [n,j]*(dsk bd d*(nodes3 bd vs f*R)))))))) (by unfold I64';omega)).mono ?_
 rintro e w2 ⟨rfl,hb2⟩
 have H2:=zH (H0.out.drew.below hb2);have B2:=zH hb2;clear hb2
 have hl5:=Lib.itoa_length_le 5 (by decide) (by decide)
 obtain ⟨N,hN⟩:∃ N,Lib.itoa 5=N:=⟨_,rfl⟩
 rw [hN] at hl5 ⊢
 have HNN:=zH hN;clear hN
 go_wp2_with (go_at_call 28;refine (say_sl b bg told _ [tNo,N] _ (H2.out.alloc _).two (svls_row (by simp) (by simp) _ rfl _) (by simp) (by simp) (by omega) (by rw [join_two];simp [tNo];omega)).mono ?_;rintro e w3 ⟨rfl,q3,h3⟩)
 rw [join_two,←HNN.out,show (32::Lib.itoa 5:List UInt8)=nums [5] by simp [nums]] at h3
 go_ret
 exact ⟨rfl,(((Quiet.refl w).drew.trans (Quiet.below B2.out)).alloc _).trans q3,h3.eq (by ac_rfl)⟩
theorem ask_job_some (b bg bd:Nat) (vs:Nat→Value) (told:List UInt8) (d:Dsk) (f:Nat→Option Nod) (now:Int) (v:Value) (n j:Int) (nd:Nod) (w:World) {w0:World} {R:HP}
  (h:Holds w (kst b bg told*(gblk bg bd vs now*(dsk bd d*(nodes3 bd vs f*(inum v [n,j]*(lay w0*R))))))) (hf:(if n<0∨3≤n then none else f n.toNat)=some nd) (hk:nd.t.Ok) (ht:told.length≤300000000) :
  Calls Tryz.prog 27 #[.pointer (some ⟨b,0,none⟩),.string (strOf tJob),v] w fun e w'=>e=.returned (.bool true)∧Quiet w w'∧Holds w' (kst b bg (told++line (tJob++jobTxt (nd.t.job j)))*(gblk bg bd vs now*(dsk bd d*(nodes3 bd vs f*(inum v [n,j]*(lay w0*R)))))):=by
 obtain ⟨gn,cn,rfl,d1,d2⟩:=inum_cons (h.eq (by ac_rfl:_=inum v [n,j]*(kst b bg told*(gblk bg bd vs now*(dsk bd d*(nodes3 bd vs f*(lay w0*R)))))))
 simp only [List.length_cons,List.length_nil,Nat.zero_add] at d1 h ⊢
 obtain ⟨hi,hfi,bn,hgn,hvn⟩:=gat_some h.four hf
 have HN:=zH hgn;have HFI:=zH hfi;have HVN:=zH hvn;have HJS:=zH (job_small hk j)
 have HJL:=zH (nums_len (job_small hk j))
 clear hf hgn hfi hvn hk
 have hbJ:=bytes_yes tJob
 obtain ⟨T,hT⟩:∃ T,strOf tJob=T:=⟨_,rfl⟩
 rw [hT] at hbJ ⊢
 simp only [tJob] at hbJ
 have HT:=zH hT
 have H0:=zH (h.eq (by ac_rfl:_=gblk bg bd vs now*(kst b bg told*(inum (.slice (some ⟨gn,0,none⟩) 2 cn) [n,j]*(dsk bd d*(nodes3 bd vs f*(lay w0*R)))))))
 clear h hT
 have mkS:∀ (W:World) (td:List UInt8) (A B:HP),Holds W (A*(kst b bg td*(inum (.slice (some ⟨gn,0,none⟩) 2 cn) [n,j]*B)))→W.cell? ⟨b,2,none⟩=some (.pointer (some ⟨bg,0,none⟩))∧W.cell? ⟨gn,0,none⟩=some (zI zi n)∧W.cell? ⟨gn,1,none⟩=some (zI zi j):=fun W td A B h=>⟨kst_bg h.two,inum_cell h.three 0 _ rfl,inum_cell h.three 1 _ rfl⟩
 have MKS:=zH mkS
 clear mkS
 go_enter Tryz.func27,Tryz.ntmps27
 go_wp2_with fail
 refine wp_region_lex (fun W=>W.cell? ⟨b,2,none⟩=some (.pointer (some ⟨bg,0,none⟩))∧W.cell? ⟨gn,0,none⟩=some (zI zi n)∧W.cell? ⟨gn,1,none⟩=some (zI zi j)) [7] (by kernel_rfl) (by kernel_rfl) (MKS.out _ _ _ _ H0.out.drew) ?_
 repeat (first|(refine LexL.none (by rfl) ?_;(try simp only [zP,zA,zB,zC]))|(refine LexL.still (v:=?_) (by rfl) ?_ ?_;rotate_left;(focus (intro W hW;(try dsimp only at hW);go_simp;(try (with_reducible rfl));done));(try simp only [zP,zA,zB,zC])))
 refine LexL.call (f:=47) (args:=#[.pointer (some ⟨bg,0,none⟩),zI zi n]) (w1:=w.drew) (by rfl) (by decide) (by go_simp) ?_
 refine (gNode_sl bg bd vs now n _ H0.out.drew).mono ?_
 rintro e w1 ⟨rfl,rfl⟩
 rw [HN.out]
 refine ⟨_,rfl,MKS.out _ _ _ _ H0.out.drew,?_⟩
 try simp only [zP,zA,zB,zC]
 repeat (first|(refine LexL.none (by rfl) ?_;(try simp only [zP,zA,zB,zC]))|(refine LexL.still (v:=?_) (by rfl) ?_ ?_;rotate_left;(focus (intro W hW;(try dsimp only at hW);go_simp;(try (with_reducible rfl));done));(try simp only [zP,zA,zB,zC])))
 refine LexL.done ?_
 go_wp2_with fail
 have hp:=H0.out.drew.eq (by rw [nodes3_pick bd vs f hi,HFI.out,HVN.out];ac_rfl:_=onod (.pointer (some ⟨bn,0,none⟩)) bd (some nd)*(kst b bg told*(inum (.slice (some ⟨gn,0,none⟩) 2 cn) [n,j]*(gblk bg bd vs now*(dsk bd d*(nrest bd vs f n.toNat*(lay w0*R)))))))
 obtain ⟨bn',e,hp⟩:=onod_some hp
 simp only [Value.pointer.injEq,Option.some.injEq,Addr.mk.injEq,and_true] at e
 subst e
 obtain ⟨bt,hp⟩:=nod_open hp
 have HP1:=zH (hp.eq (by ac_rfl:_=tab bt nd.t*(nblk bn bt bd nd*(inum (.slice (some ⟨gn,0,none⟩) 2 cn) [n,j]*(kst b bg told*(gblk bg bd vs now*(dsk bd d*(nrest bd vs f n.toNat*(lay w0*R)))))))))
 have mkT:∀ (W:World) (A B:HP),Holds W (A*(nblk bn bt bd nd*(inum (.slice (some ⟨gn,0,none⟩) 2 cn) [n,j]*B)))→W.cell? ⟨bn,0,none⟩=some (.pointer (some ⟨bt,0,none⟩))∧W.cell? ⟨gn,1,none⟩=some (zI zi j):=fun W A B h=>⟨(show Holds W (bl bn 119 [.pointer (some ⟨bt,0,none⟩),.pointer (some ⟨bd,0,none⟩),zI zi nd.ep,.bool nd.down]*_) from h.two).bl.cell 0 _ rfl,inum_cell h.three 1 _ rfl⟩
 have MKT:=zH mkT
 clear hp mkT
 obtain ⟨wj,hwj⟩:∃ wj,w.drew=wj:=⟨_,rfl⟩
 have QJ:=zH (show Quiet w wj from hwj▸(Quiet.refl w).drew)
 rw [hwj] at HP1 ⊢
 clear hwj
 have hpd:=HP1.out.drew
 have HPD:=zH hpd;clear hpd
 refine wp_region_lex (fun W=>W.cell? ⟨bn,0,none⟩=some (.pointer (some ⟨bt,0,none⟩))∧W.cell? ⟨gn,1,none⟩=some (zI zi j)) [8,9,10,11,12] (by kernel_rfl) (by kernel_rfl) (MKT.out _ _ _ HPD.out) ?_
 repeat (first|(refine LexL.none (by rfl) ?_;(try simp only [zP,zA,zB,zC]))|(refine LexL.still (v:=?_) (by rfl) ?_ ?_;rotate_left;(focus (intro W hW;(try dsimp only at hW);go_simp;(try (with_reducible rfl));done));(try simp only [zP,zA,zB,zC])))
 refine LexL.call (f:=49) (args:=#[.pointer (some ⟨bt,0,none⟩),zI zi j]) (w1:=wj.drew) (by rfl) (by decide) (by go_simp) ?_
 refine (job_sl bt nd.t j _ HPD.out).mono ?_
 rintro e w2 ⟨rfl,hb2⟩
 have H2:=zH (HPD.out.below hb2);have Q2:=zH ((QJ.out.drew).trans (Quiet.below hb2));clear hb2
 refine ⟨_,rfl,MKT.out _ _ _ H2.out,?_⟩
 try simp only [zP,zA,zB,zC]
 refine LexL.call (f:=48) (args:=#[(nd.t.job j).val]) (w1:=w2) (by rfl) (by decide) (by go_simp) ?_
 refine (kjob_sl (nd.t.job j) _ (lay_laid (H2.out.eq (by ac_rfl:_=lay w0*(tab bt nd.t*(nblk bn bt bd nd*(inum (.slice (some ⟨gn,0,none⟩) 2 cn) [n,j]*(kst b bg told*(gblk bg bd vs now*(dsk bd d*(nrest bd vs f n.toNat*R)))))))))) (sms_i64 HJS.out)).mono ?_
 rintro e w3 ⟨rfl,hb3⟩
 have H3:=zH (H2.out.below hb3);have Q3:=zH (Q2.out.trans (Quiet.below hb3));clear hb3
 refine ⟨_,rfl,MKT.out _ _ _ H3.out,?_⟩
 try simp only [zP,zA,zB,zC]
 obtain ⟨N,hN⟩:∃ N,jobTxt (nd.t.job j)=N:=⟨_,rfl⟩
 have hl:N.length≤88:=by rw [←hN];exact HJL.out
 rw [hN]
 have HNN:=zH hN;clear hN
 refine LexL.still (v:=.string (strOf (tJob++N))) (by rfl) (fun W _=>exec_add_str (l:=tJob) (m:=N) (.const (.string ⟨#[106,111,98]⟩)) (.tmp 45) rfl rfl rfl (by simp [tJob];omega)) ?_
 try simp only [zP,zA,zB,zC]
 refine LexL.value (w1:=w3.alloc (.cells (svls [tJob++N]).toArray 9)) (v:=.slice (some ⟨w3.heap.size,0,none⟩) 1 1) (by rfl) (by decide) (by go_simp;rfl) (MKT.out _ _ _ (H3.out.alloc _)) ?_
 try simp only [zP,zA,zB,zC]
 refine LexL.call (f:=28) (args:=#[.pointer (some ⟨b,0,none⟩),.slice (some ⟨w3.heap.size,0,none⟩) 1 1]) (w1:=w3.alloc (.cells (svls [tJob++N]).toArray 9)) (by rfl) (by decide) (by go_simp) ?_
 refine (say_sl b bg told _ [tJob++N] _ (H3.out.alloc (.cells (svls [tJob++N]).toArray 9)).four (svls_row rfl (by simp) _ rfl _) (by simp) (by simp) (by omega) (by rw [join_one'];simp [tJob];omega)).mono ?_
 rintro e w4 ⟨rfl,q4,h4⟩
 rw [join_one',←HNN.out] at h4
 have H4:=zH h4
 have Q4:=zH ((Q3.out.alloc (.cells (svls [tJob++N]).toArray 9)).trans q4)
 clear h4 q4
 refine ⟨_,rfl,MKT.out _ _ _ (H4.out.eq (by ac_rfl:_=(kst b bg (told++line (tJob++jobTxt (nd.t.job j)))*tab bt nd.t)*(nblk bn bt bd nd*(inum (.slice (some ⟨gn,0,none⟩) 2 cn) [n,j]*(gblk bg bd vs now*(dsk bd d*(nrest bd vs f n.toNat*(lay w0*R)))))))),?_⟩
 try simp only [zP,zA,zB,zC]
 refine LexL.done ?_
 go_wp2
 go_ret
 refine ⟨rfl,Q4.out,?_⟩
 have hz:=onod_mk (nod_close (H4.out.eq (by ac_rfl:_=nblk bn bt bd nd*(tab bt nd.t*(kst b bg (told++line (tJob++jobTxt (nd.t.job j)))*(inum (.slice (some ⟨gn,0,none⟩) 2 cn) [n,j]*(gblk bg bd vs now*(dsk bd d*(nrest bd vs f n.toNat*(lay w0*R))))))))))
 rw [nodes3_pick bd vs f hi,HFI.out,HVN.out]
 exact hz.eq (by ac_rfl)
theorem inum_nil {w:World} {v:Value} {A:HP} (h:Holds w (inum v []*A)):∃ a c,v=.slice a 0 c∧c≤9223372036854775807:=by
 obtain ⟨a,c,e,h1,h2⟩:=h.row.shape
 exact ⟨a,c,e,h2⟩
theorem ask_disk (b bg bd:Nat) (vs:Nat→Value) (told:List UInt8) (d:Dsk) (now:Int) (v:Value) (w:World) {w0:World} {RN R:HP}
  (h:Holds w (kst b bg told*(gblk bg bd vs now*(dsk bd d*(RN*(inum v []*(lay w0*R))))))) (hd:d.Ok) (hn:Sm now) (ht:told.length≤300000000) :
  Calls Tryz.prog 27 #[.pointer (some ⟨b,0,none⟩),.string (strOf tDisk),v] w fun e w'=>e=.returned (.bool true)∧Quiet w w'∧Holds w' (kst b bg (told++line (tDisk++nums [d.ep,d.b.length,now]))*(gblk bg bd vs now*(dsk bd d*(RN*(inum v []*(lay w0*R)))))):=by
 obtain ⟨va,vc,rfl,d1⟩:=inum_nil (h.eq (by ac_rfl:_=inum v []*(kst b bg told*(gblk bg bd vs now*(dsk bd d*(RN*(lay w0*R)))))))
 have hsm:∀ n∈[d.ep,(d.b.length:Int),now],Sm n:=fun n hn'=>by
  have h1:=hd.ep;have h2:=hd.b
  simp only [List.mem_cons,List.mem_nil_iff,or_false] at hn'
  unfold Sm
  unfold Sm at hn
  rcases hn' with rfl|rfl|rfl<;>omega
 have HS:=zH hsm;have HD:=zH hd
 have HL:=zH (nums_len hsm)
 have hbJ:=bytes_no (show tDisk≠tJob by decide);have hbD:=bytes_yes tDisk
 obtain ⟨T,hT⟩:∃ T,strOf tDisk=T:=⟨_,rfl⟩
 rw [hT] at hbJ hbD ⊢
 simp only [tJob,tDisk] at hbJ hbD
 have H0:=zH h;have HT:=zH hT
 clear h hd hn hsm hT
 go_enter Tryz.func27,Tryz.ntmps27
 go_wp2_with fail
 have mkS:∀ (W:World) (td:List UInt8) (A B:HP),Holds W (A*(kst b bg td*(gblk bg bd vs now*B)))→W.cell? ⟨b,2,none⟩=some (.pointer (some ⟨bg,0,none⟩))∧W.cell? ⟨bg,0,none⟩=some (.pointer (some ⟨bd,0,none⟩)):=fun W td A B h=>⟨kst_bg h.two,(show Holds W (bl bg 65 (gcells bd vs now)*_) from h.three).bl.cell 0 _ rfl⟩
 have hx1:Holds w.drew (dsk bd d*(kst b bg told*(gblk bg bd vs now*(RN*(inum (.slice va 0 vc) []*(lay w0*R)))))):=H0.out.drew.three
 have HX1:=zH hx1;have MKS:=zH mkS
 clear hx1 mkS
 refine wp_region_lex (fun W=>W.cell? ⟨b,2,none⟩=some (.pointer (some ⟨bg,0,none⟩))∧W.cell? ⟨bg,0,none⟩=some (.pointer (some ⟨bd,0,none⟩))) [8,16,22,23,24,25,26,27] (by kernel_rfl) (by kernel_rfl) (MKS.out _ _ _ _ HX1.out) ?_
 repeat (first|(refine LexL.none (by rfl) ?_;(try simp only [zP,zA,zB,zC]))|(refine LexL.still (v:=?_) (by rfl) ?_ ?_;rotate_left;(focus (intro W hW;(try dsimp only at hW);go_simp;(try (with_reducible rfl));done));(try simp only [zP,zA,zB,zC])))
 refine LexL.call (f:=51) (args:=#[.pointer (some ⟨bd,0,none⟩)]) (w1:=w.drew) (by rfl) (by decide) (by go_simp) ?_
 refine (depoch_sl bd d _ HX1.out).mono ?_
 rintro e w1 ⟨rfl,rfl⟩
 refine ⟨_,rfl,MKS.out _ _ _ _ HX1.out,?_⟩
 try simp only [zP,zA,zB,zC]
 repeat (first|(refine LexL.none (by rfl) ?_;(try simp only [zP,zA,zB,zC]))|(refine LexL.still (v:=?_) (by rfl) ?_ ?_;rotate_left;(focus (intro W hW;(try dsimp only at hW);go_simp;(try (with_reducible rfl));done));(try simp only [zP,zA,zB,zC])))
 refine LexL.call (f:=52) (args:=#[.pointer (some ⟨bd,0,none⟩)]) (w1:=w.drew) (by rfl) (by decide) (by go_simp) ?_
 refine (bytes_sl bd d _ HX1.out HD.out).mono ?_
 rintro e w2 ⟨vb,rfl,q2,h2⟩
 obtain ⟨ba,bc,rfl,-,-⟩:=h2.ownb.bytes.shape
 replace h2:Holds w2 (ownb (.slice ba d.b.length bc) d.b*(dsk bd d*(kst b bg told*(gblk bg bd vs now*(RN*(inum (.slice va 0 vc) []*(lay w0*R))))))):=h2
 have H2:=zH (h2.eq (by ac_rfl:_=ownb (.slice ba d.b.length bc) d.b*(kst b bg told*(gblk bg bd vs now*(dsk bd d*(RN*(inum (.slice va 0 vc) []*(lay w0*R))))))))
 have Q2:=zH ((Quiet.refl w).drew.trans q2)
 have hla2:=lay_laid (h2.eq (by ac_rfl:_=lay w0*(ownb (.slice ba d.b.length bc) d.b*(kst b bg told*(gblk bg bd vs now*(dsk bd d*(RN*(inum (.slice va 0 vc) []*R))))))))
 have HLA2:=zH hla2
 clear h2 q2 hla2
 refine ⟨_,rfl,MKS.out _ _ _ _ H2.out,?_⟩
 try simp only [zP,zA,zB,zC]
 repeat (first|(refine LexL.none (by rfl) ?_;(try simp only [zP,zA,zB,zC]))|(refine LexL.still (v:=?_) (by rfl) ?_ ?_;rotate_left;(focus (intro W hW;(try dsimp only at hW);go_simp;(try (with_reducible rfl));done));(try simp only [zP,zA,zB,zC])))
 refine LexL.call (f:=53) (args:=#[.pointer (some ⟨bg,0,none⟩)]) (w1:=w2) (by rfl) (by decide) (by go_simp) ?_
 refine (gNow_sl bg bd vs now _ H2.out.three).mono ?_
 rintro e w3 ⟨rfl,rfl⟩
 refine ⟨_,rfl,MKS.out _ _ _ _ H2.out,?_⟩
 try simp only [zP,zA,zB,zC]
 repeat (first|(refine LexL.none (by rfl) ?_;(try simp only [zP,zA,zB,zC]))|(refine LexL.still (v:=?_) (by rfl) ?_ ?_;rotate_left;(focus (intro W hW;(try dsimp only at hW);go_simp;(try (with_reducible rfl));done));(try simp only [zP,zA,zB,zC])))
 refine LexL.value (w1:=w2.alloc (.cells (ivs [d.ep,(d.b.length:Int),now]).toArray 3)) (v:=.slice (some ⟨w2.heap.size,0,none⟩) 3 3) (by rfl) (by decide) (by go_simp;rfl) (MKS.out _ _ _ _ (H2.out.alloc _)) ?_
 try simp only [zP,zA,zB,zC]
 refine LexL.call (f:=50) (args:=#[.slice (some ⟨w2.heap.size,0,none⟩) 3 3]) (w1:=w2.alloc (.cells (ivs [d.ep,(d.b.length:Int),now]).toArray 3)) (by rfl) (by decide) (by go_simp) ?_
 refine (nums_sl _ [d.ep,(d.b.length:Int),now] _ (HLA2.out.alloc _) (ivs_row rfl (by simp) _ rfl _) (by simp) (sms_i64 HS.out)).mono ?_
 rintro e w4 ⟨rfl,hb4⟩
 have H4:=zH ((H2.out.alloc (.cells (ivs [d.ep,(d.b.length:Int),now]).toArray 3)).below hb4)
 have Q4:=zH ((Q2.out.alloc (.cells (ivs [d.ep,(d.b.length:Int),now]).toArray 3)).trans (Quiet.below hb4))
 clear hb4
 refine ⟨_,rfl,MKS.out _ _ _ _ H4.out,?_⟩
 try simp only [zP,zA,zB,zC]
 obtain ⟨N,hN⟩:∃ N,nums [d.ep,(d.b.length:Int),now]=N:=⟨_,rfl⟩
 have hl:=HL.out
 rw [hN] at hl ⊢
 have HN:=zH hN
 simp only [List.length_cons,List.length_nil] at hl
 clear hN
 refine LexL.still (v:=.string (strOf (tDisk++N))) (by rfl) (fun W _=>exec_add_str (l:=tDisk) (m:=N) (.const (.string ⟨#[100,105,115,107]⟩)) (.tmp 81) rfl rfl rfl (by simp [tDisk];omega)) ?_
 try simp only [zP,zA,zB,zC]
 refine LexL.value (w1:=w4.alloc (.cells (svls [tDisk++N]).toArray 9)) (v:=.slice (some ⟨w4.heap.size,0,none⟩) 1 1) (by rfl) (by decide) (by go_simp;rfl) (MKS.out _ _ _ _ (H4.out.alloc _)) ?_
 try simp only [zP,zA,zB,zC]
 refine LexL.call (f:=28) (args:=#[.pointer (some ⟨b,0,none⟩),.slice (some ⟨w4.heap.size,0,none⟩) 1 1]) (w1:=w4.alloc (.cells (svls [tDisk++N]).toArray 9)) (by rfl) (by decide) (by go_simp) ?_
 refine (say_sl b bg told _ [tDisk++N] _ (H4.out.alloc (.cells (svls [tDisk++N]).toArray 9)).two (svls_row rfl (by simp) _ rfl _) (by simp) (by simp) (by omega) (by rw [join_one'];simp [tDisk];omega)).mono ?_
 rintro e w5 ⟨rfl,q5,h5⟩
 rw [join_one',←HN.out] at h5
 have H5:=zH h5
 have Q5:=zH ((Q4.out.alloc (.cells (svls [tDisk++N]).toArray 9)).trans q5)
 clear h5 q5
 refine ⟨_,rfl,MKS.out _ _ _ _ H5.out.two,?_⟩
 try simp only [zP,zA,zB,zC]
 refine LexL.done ?_
 go_wp2
 go_ret
 exact ⟨rfl,Q5.out,H5.out.two.right⟩
theorem pair_cells {W:World} {g off n c:Nat} {l:List (Int×Int)} {R:HP} (h:Holds W (hold (.slice (some ⟨g,off,none⟩) n c) l*R)) {i:Nat} {a b:Int} (hi:l[i]? = some (a,b)):W.cell? ⟨g,off+i*2,none⟩=some (zI zi a)∧W.cell? ⟨g,off+i*2+1,none⟩=some (zI zi b):=by
 have hn:l.length≠0:=by intro e;have:=(List.getElem?_eq_some_iff.1 hi).1;omega
 obtain ⟨g',off',c',e,_,_,hc⟩:=h.row.get hn
 simp only [Value.slice.injEq,Option.some.injEq,Addr.mk.injEq,and_true] at e
 obtain ⟨⟨rfl,rfl⟩,_,rfl⟩:=e
 obtain ⟨h1,h2⟩:=hvs_get l i (a,b) hi
 exact ⟨hc _ _ h1,by rw [Nat.add_assoc];exact hc _ _ h2⟩
theorem flat2_take (l:List (Int×Int)) (k:Nat) (p:Int×Int) (h:l[k]? = some p):flat2 (l.take (k+1))=flat2 (l.take k)++[p.1,p.2]:=by
 rw [List.take_add_one,h]
 simp [flat2]
theorem ask_holders (b bg bd:Nat) (vs:Nat→Value) (told:List UInt8) (d:Dsk) (now a:Int) (v:Value) (w:World) {w0:World} {RN R:HP}
  (h:Holds w (kst b bg told*(gblk bg bd vs now*(dsk bd d*(RN*(inum v [a]*(lay w0*R))))))) (hd:d.Ok) (ht:told.length≤300000000) :
  Calls Tryz.prog 27 #[.pointer (some ⟨b,0,none⟩),.string (strOf tHolders),v] w fun e w'=>e=.returned (.bool true)∧Quiet w w'∧Holds w' (kst b bg (told++line (tHolders++nums (flat2 (holders (evs Tbl.zero (allB d.b)) a))))*(gblk bg bd vs now*(dsk bd d*(RN*(inum v [a]*(lay w0*R)))))):=by
 obtain ⟨gn,cn,rfl,d1,d2⟩:=inum_cons (h.eq (by ac_rfl:_=inum v [a]*(kst b bg told*(gblk bg bd vs now*(dsk bd d*(RN*(lay w0*R)))))))
 simp only [List.length_nil,Nat.zero_add] at d1 h ⊢
 have hE:=disk_evs d.b
 have hEL:=disk_evs_len hd.b
 obtain ⟨E,hEe⟩:∃ E,evs Tbl.zero (allB d.b)=E:=⟨_,rfl⟩
 have hH:=holders_small (hEe▸hE) a
 have hHL:=holders_len E a
 rw [hEe] at hEL ⊢
 obtain ⟨hs,hhs⟩:∃ hs,holders E a=hs:=⟨_,rfl⟩
 rw [hhs] at hH hHL ⊢
 have HH:=zH hH;have HD:=zH hd;have HE:=zH hEe;have HHS:=zH hhs
 have hbJ:=bytes_no (show tHolders≠tJob by decide);have hbD:=bytes_no (show tHolders≠tDisk by decide);have hbL:=bytes_no (show tHolders≠tLog by decide);have hbH:=bytes_yes tHolders
 obtain ⟨T,hT⟩:∃ T,strOf tHolders=T:=⟨_,rfl⟩
 rw [hT] at hbJ hbD hbL hbH ⊢
 simp only [tJob,tDisk,tLog,tHolders] at hbJ hbD hbL hbH
 have H0:=zH h;have HT:=zH hT
 clear h hd hT hE hEe hH hhs
 go_enter Tryz.func27,Tryz.ntmps27
 go_wp2_with fail
 have mkS:∀ (W:World) (td:List UInt8) (A B:HP),Holds W (A*(kst b bg td*(gblk bg bd vs now*(inum (.slice (some ⟨gn,0,none⟩) 1 cn) [a]*B))))→W.cell? ⟨b,2,none⟩=some (.pointer (some ⟨bg,0,none⟩))∧W.cell? ⟨bg,0,none⟩=some (.pointer (some ⟨bd,0,none⟩))∧W.cell? ⟨gn,0,none⟩=some (zI zi a):=fun W td A B h=>⟨kst_bg h.two,(show Holds W (bl bg 65 (gcells bd vs now)*_) from h.three).bl.cell 0 _ rfl,inum_cell h.four 0 _ rfl⟩
 have HX1:=zH (H0.out.drew.eq (by ac_rfl:_=dsk bd d*(kst b bg told*(gblk bg bd vs now*(inum (.slice (some ⟨gn,0,none⟩) 1 cn) [a]*(RN*(lay w0*R)))))))
 have MKS:=zH mkS
 clear mkS
 refine wp_region_lex (fun W=>W.cell? ⟨b,2,none⟩=some (.pointer (some ⟨bg,0,none⟩))∧W.cell? ⟨bg,0,none⟩=some (.pointer (some ⟨bd,0,none⟩))∧W.cell? ⟨gn,0,none⟩=some (zI zi a)) [7,8,12] (by kernel_rfl) (by kernel_rfl) (MKS.out _ _ _ _ HX1.out) ?_
 repeat (first|(refine LexL.none (by rfl) ?_;(try simp only [zP,zA,zB,zC]))|(refine LexL.still (v:=?_) (by rfl) ?_ ?_;rotate_left;(focus (intro W hW;(try dsimp only at hW);go_simp;(try (with_reducible rfl));done));(try simp only [zP,zA,zB,zC])))
 refine LexL.call (f:=52) (args:=#[.pointer (some ⟨bd,0,none⟩)]) (w1:=w.drew) (by rfl) (by decide) (by go_simp) ?_
 refine (bytes_sl bd d _ HX1.out HD.out).mono ?_
 rintro e w2 ⟨vb,rfl,q2,h2⟩
 replace h2:Holds w2 (ownb vb d.b*(dsk bd d*(kst b bg told*(gblk bg bd vs now*(inum (.slice (some ⟨gn,0,none⟩) 1 cn) [a]*(RN*(lay w0*R))))))):=h2
 have H2:=zH h2;have Q2:=zH ((Quiet.refl w).drew.trans q2)
 clear h2 q2
 refine ⟨_,rfl,MKS.out _ _ _ _ H2.out.right,?_⟩
 try simp only [zP,zA,zB,zC]
 refine LexL.call (f:=54) (args:=#[vb]) (w1:=w2) (by rfl) (by decide) (by go_simp) ?_
 refine (of_sl vb d.b w2 H2.out.ownb.bytes (by have:=HD.out.b;omega) H2.out.right).mono ?_
 rw [HE.out]
 rintro e w3 ⟨ve,rfl,q3,h3⟩
 replace h3:Holds w3 (sevs ve E*(dsk bd d*(kst b bg told*(gblk bg bd vs now*(inum (.slice (some ⟨gn,0,none⟩) 1 cn) [a]*(RN*(lay w0*R))))))):=h3
 have H3:=zH h3;have Q3:=zH (Q2.out.trans q3)
 clear h3 q3
 refine ⟨_,rfl,MKS.out _ _ _ _ H3.out.right,?_⟩
 try simp only [zP,zA,zB,zC]
 repeat (first|(refine LexL.none (by rfl) ?_;(try simp only [zP,zA,zB,zC]))|(refine LexL.still (v:=?_) (by rfl) ?_ ?_;rotate_left;(focus (intro W hW;(try dsimp only at hW);go_simp;(try (with_reducible rfl));done));(try simp only [zP,zA,zB,zC])))
 refine LexL.call (f:=55) (args:=#[ve,zI zi a]) (w1:=w3) (by rfl) (by decide) (by go_simp) ?_
 refine (holders_sl ve E a w3 H3.out.row (by omega) H3.out.right).mono ?_
 rw [HHS.out]
 rintro e w4 ⟨vh,rfl,q4,h4⟩
 replace h4:Holds w4 (hold vh hs*(dsk bd d*(kst b bg told*(gblk bg bd vs now*(inum (.slice (some ⟨gn,0,none⟩) 1 cn) [a]*(RN*(lay w0*R))))))):=h4
 obtain ⟨ah,ch,rfl,-,-⟩:=h4.row.shape
 have H4:=zH h4;have Q4:=zH (Q3.out.trans q4)
 clear h4 q4
 refine ⟨_,rfl,MKS.out _ _ _ _ H4.out.right,?_⟩
 try simp only [zP,zA,zB,zC]
 repeat (first|(refine LexL.none (by rfl) ?_;(try simp only [zP,zA,zB,zC]))|(refine LexL.still (v:=?_) (by rfl) ?_ ?_;rotate_left;(focus (intro W hW;(try dsimp only at hW);go_simp;(try (with_reducible rfl));done));(try simp only [zP,zA,zB,zC])))
 refine LexL.done ?_
 go_wp2_with fail
 go_loopw [11,162] (fun s i wr=>∃ k:Nat,k≤hs.length∧i=zI zi k∧s=.string (strOf (tHolders++nums (flat2 (hs.take k))))∧Holds wr (hold (.slice ah hs.length ch) hs*(dsk bd d*(kst b bg told*(gblk bg bd vs now*(inum (.slice (some ⟨gn,0,none⟩) 1 cn) [a]*(RN*(lay w0*R)))))))∧Quiet w wr) (fun _ i _=>hs.length-(intOf i).toNat)
 case atStart=>exact ⟨0,by omega,rfl,by simp [flat2,nums,tHolders];rfl,H4.out,Q4.out⟩
 case round=>
  obtain ⟨k,hk,rfl,rfl,hh,hq⟩:=hrel
  have hsm:∀ n∈flat2 (hs.take k),Sm n:=flat2_small fun p hp=>HH.out p (List.mem_of_mem_take hp)
  have hle:(nums (flat2 (hs.take k))).length≤22*(2*k):=by
   have:=nums_len hsm
   rw [flat2_len,List.length_take] at this;omega
  obtain ⟨S,hS⟩:∃ S,tHolders++nums (flat2 (hs.take k))=S:=⟨_,rfl⟩
  have hSl:S.length≤7+44*166:=by rw [←hS,List.length_append];simp only [tHolders,List.length_cons,List.length_nil];omega
  rw [hS]
  have HS:=zH hS;have HQ:=zH hq;have HH5:=zH hh
  clear hS hq hh hsm hle
  obtain ⟨wo,rfl⟩:∃ wo:World,wo=wr:=⟨_,rfl⟩
  by_cases hlt:k<hs.length
  ·obtain ⟨⟨pa,pb⟩,hp⟩:∃ p,hs[k]? = some p:=⟨_,List.getElem?_eq_getElem hlt⟩
   obtain ⟨gh,oh,ch',eh,_⟩:=HH5.out.row.get (by omega)
   simp only [Value.slice.injEq] at eh
   obtain ⟨rfl,_,rfl⟩:=eh
   obtain ⟨y0,y1⟩:=pair_cells HH5.out hp
   have hps:=HH.out _ (List.mem_of_getElem? hp)
   have hpi:∀ n∈[pa,pb],I64' n:=fun n hn=>by
    simp only [List.mem_cons,List.mem_nil_iff,or_false] at hn
    rcases hn with rfl|rfl
    ·exact sm_i64 hps.1
    ·exact sm_i64 hps.2
   have hpl:=nums_le hpi
   simp only [List.length_cons,List.length_nil] at hpl
   have hst:=flat2_take hs k (pa,pb) hp
   have hst2:tHolders++nums (flat2 (hs.take (k+1)))=S++nums [pa,pb]:=by rw [hst,nums_append,←List.append_assoc,HS.out]
   have HST:=zH hst2;have HPI:=zH hpi
   clear hp hps hpi hst hst2
   have H6:=zH ((HH5.out.alloc (.cells #[zI zi pa,zI zi pb] 128)).alloc (.cells (ivs [pa,pb]).toArray 3))
   have hla:=lay_laid (H6.out.eq (by ac_rfl:_=lay w0*(hold (.slice (some ⟨gh,oh,none⟩) hs.length ch) hs*(dsk bd d*(kst b bg told*(gblk bg bd vs now*(inum (.slice (some ⟨gn,0,none⟩) 1 cn) [a]*(RN*R))))))))
   have HLA:=zH hla;clear hla
   obtain ⟨N,hN⟩:∃ N,nums [pa,pb]=N:=⟨_,rfl⟩
   rw [hN] at hpl
   have hs1:=strOf_size S;have hs2:=strOf_size N;have hs3:=strOf_append S N
   have HS3:=zH hs3;clear hs3
   go_wp2_with (go_at_call 50;refine (nums_sl _ [pa,pb] _ HLA.out (ivs_row (by simp) (by simp) _ rfl _) (by simp) HPI.out).mono ?_;rw [hN];rintro e w6 ⟨rfl,hb6⟩;have HB6:=zH hb6;clear hb6)
   go_roundw
   case rel=>exact ⟨k+1,by omega,by go_num,by rw [HST.out,hN,←HS3.out],H6.out.below HB6.out,((HQ.out.alloc _).alloc _).trans (Quiet.below HB6.out)⟩
   case measure=>simp [intOf];omega
  ·obtain rfl:k=hs.length:=by omega
   have HS':=HS.out
   rw [List.take_length] at HS'
   have HS2:=zH HS';clear HS'
   go_wp2_with (go_at_call 28;refine (say_sl b bg told _ [S] _ (HH5.out.alloc (.cells (svls [S]).toArray 9)).three (svls_row (by simp) (by simp) _ rfl _) (by simp) (by simp) (by omega) (by rw [join_one'];omega)).mono ?_;rintro e w6 ⟨rfl,q6,h6⟩)
   rw [join_one',←HS2.out] at h6
   go_ret
   exact ⟨rfl,(HQ.out.alloc _).trans q6,(h6.eq (by ac_rfl:_=hold (.slice ah hs.length ch) hs*(kst b bg (told++line (tHolders++nums (flat2 hs)))*(gblk bg bd vs now*(dsk bd d*(RN*(inum (.slice (some ⟨gn,0,none⟩) 1 cn) [a]*(lay w0*R)))))))).right⟩
end Go.Proofs.YtfihmpkkpgmdhaaGreatDoor
