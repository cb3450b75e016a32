/-
  What the proof of DeskDoes leans on: definitions, laws, contracts of functions. No condition besides those that each theorem names.
-/
import Derived.Test.YtfihmpkkpgmdhaaGreatDoorZD34
import Derived.Test.YtfihmpkkpgmdhaaGreatDoorZD18
set_option maxRecDepth 100000
set_option maxHeartbeats 16000000
set_option linter.unusedVariables false
set_option linter.unusedSimpArgs false
set_option linter.unnecessarySimpa false
namespace Go.Proofs.YtfihmpkkpgmdhaaGreatDoor
open Go.RowKit
open List renaming setIfInBounds_toArray → zA, set_cons_zero → zB, set_cons_succ → zC
open Go.Act renaming put → zP
open Go.Lib renaming hid → zH
open Go.Value renaming int → zI
open Go.IntKind renaming i64 → zi
theorem logTxt_take (l:List Ev) (k:Nat) (e:Ev) (h:l[k]? = some e):logTxt (l.take (k+1))=logTxt (l.take k)++line (evTxt e):=by
 rw [List.take_add_one,h,←logTxt_snoc]
 rfl
theorem ask_log (b bg bd:Nat) (vs:Nat→Value) (told:List UInt8) (d:Dsk) (now:Int) (v:Value) (w:World) {w0:World} {RN R:HP}
  (h:Holds w (kst b bg told*(gblk bg bd vs now*(dsk bd d*(RN*(inum v []*(lay w0*R))))))) (hd:d.Ok) (ht:told.length≤300000000) :
  Calls Tryz.prog 27 #[.pointer (some ⟨b,0,none⟩),.string (strOf tLog),v] w fun e w'=>e=.returned (.bool true)∧Quiet w w'∧Holds w' (kst b bg (told++(logTxt (evs Tbl.zero (allB d.b))++line tEnd))*(gblk bg bd vs now*(dsk bd d*(RN*(inum v []*(lay w0*R)))))):=by
 obtain ⟨va,vc,rfl,d1⟩:=inum_nil (h.eq (by ac_rfl:_=inum v []*(kst b bg told*(gblk bg bd vs now*(dsk bd d*(RN*(lay w0*R)))))))
 have hE:=disk_evs d.b
 have hEL:=disk_evs_len hd.b
 obtain ⟨E,hEe⟩:∃ E,evs Tbl.zero (allB d.b)=E:=⟨_,rfl⟩
 rw [hEe] at hE hEL ⊢
 have HES:=zH hE;have HD:=zH hd;have HE:=zH hEe
 have hbJ:=bytes_no (show tLog≠tJob by decide);have hbD:=bytes_no (show tLog≠tDisk by decide);have hbL:=bytes_yes tLog
 obtain ⟨T,hT⟩:∃ T,strOf tLog=T:=⟨_,rfl⟩
 rw [hT] at hbJ hbD hbL ⊢
 simp only [tJob,tDisk,tLog] at hbJ hbD hbL
 have c2:w.cell? ⟨b,2,none⟩=some (.pointer (some ⟨bg,0,none⟩)):=kst_bg h
 have c3:w.cell? ⟨bg,0,none⟩=some (.pointer (some ⟨bd,0,none⟩)):=(show Holds w (bl bg 65 (gcells bd vs now)*_) from h.two).bl.cell 0 _ rfl
 have H0:=zH h;have HT:=zH hT
 clear h hd hT hE hEe
 go_enter Tryz.func27,Tryz.ntmps27
 go_wp2_with fail
 refine (bytes_sl bd d _ H0.out.three HD.out).mono ?_
 rintro e w2 ⟨vb,rfl,q2,h2⟩
 replace h2:Holds w2 (ownb vb d.b*(dsk bd d*(kst b bg told*(gblk bg bd vs now*(RN*(inum (.slice va 0 vc) []*(lay w0*R))))))):=h2
 have H2:=zH h2;have Q2:=zH q2
 clear h2 q2 c2 c3
 go_wp2_with fail
 refine (of_sl vb d.b w2 H2.out.ownb.bytes (by have:=HD.out.b;omega) H2.out.right).mono ?_
 rw [HE.out]
 rintro e w3 ⟨ve,rfl,q3,h3⟩
 replace h3:Holds w3 (sevs ve E*(dsk bd d*(kst b bg told*(gblk bg bd vs now*(RN*(inum (.slice va 0 vc) []*(lay w0*R))))))):=h3
 obtain ⟨ea,ec,rfl,-,-⟩:=h3.row.shape
 have H3:=zH (h3.eq (by ac_rfl:_=kst b bg told*(sevs (.slice ea E.length ec) E*(dsk bd d*(gblk bg bd vs now*(RN*(inum (.slice va 0 vc) []*(lay w0*R))))))));have Q3:=zH (Q2.out.trans q3)
 clear h3 q3
 go_wp2_with fail
 go_loopw [103] (fun i wr=>∃ k:Nat,k≤E.length∧i=zI zi k∧Holds wr (kst b bg (told++logTxt (E.take k))*(sevs (.slice ea E.length ec) E*(dsk bd d*(gblk bg bd vs now*(RN*(inum (.slice va 0 vc) []*(lay w0*R)))))))∧Quiet w wr) (fun i _=>E.length-(intOf i).toNat)
 case atStart=>exact ⟨0,by omega,rfl,by simpa [logTxt] using H3.out,Q3.out⟩
 case round=>
  obtain ⟨k,hk,rfl,hh,hq⟩:=hrel
  have hle:(logTxt (E.take k)).length≤261*k:=by
   have:=logTxt_len (l:=E.take k) fun e he=>HES.out e (List.mem_of_mem_take he)
   rw [List.length_take] at this;omega
  obtain ⟨wo,rfl⟩:∃ wo:World,wo=wr:=⟨_,rfl⟩
  by_cases hlt:k<E.length
  ·obtain ⟨e0,he⟩:∃ e,E[k]? = some e:=⟨_,List.getElem?_eq_getElem hlt⟩
   have hsm:=HES.out e0 (List.mem_of_getElem? he)
   have hst:=logTxt_take E k e0 he
   obtain ⟨S0,hS0⟩:∃ S,told++logTxt (E.take k)=S:=⟨_,rfl⟩
   have hSl:S0.length≤300000000+261*166:=by rw [←hS0,List.length_append];omega
   have hst2:told++logTxt (E.take (k+1))=S0++line (evTxt e0):=by rw [hst,←List.append_assoc,hS0]
   rw [hS0] at hh
   have HST:=zH hst2;have HSM:=zH hsm
   obtain ⟨ge,oe,ce,eh,-,-,hce⟩:=hh.two.row.get (by omega)
   simp only [Value.slice.injEq] at eh
   obtain ⟨rfl,_,rfl⟩:=eh
   obtain ⟨⟨ep2,⟨kd,nw,jb,tr,wk,tm⟩⟩,⟨a0,a1,a2⟩,⟨s1,s2,s3,s4⟩⟩:=e0
   have y0:wo.cell? ⟨ge,oe+k*14,none⟩=some (zI zi ep2):=evvs_cell hce he 0 (zI zi ep2) (by omega) rfl
   have y1:=evvs_cell hce he 1 (zI zi kd) (by omega) rfl
   have y2:=evvs_cell hce he 2 (zI zi nw) (by omega) rfl
   have y3:=evvs_cell hce he 3 (zI zi jb) (by omega) rfl
   have y4:=evvs_cell hce he 4 (zI zi tr) (by omega) rfl
   have y5:=evvs_cell hce he 5 (zI zi wk) (by omega) rfl
   have y6:=evvs_cell hce he 6 (zI zi tm) (by omega) rfl
   have y7:=evvs_cell hce he 7 (zI zi a0) (by omega) rfl
   have y8:=evvs_cell hce he 8 (zI zi a1) (by omega) rfl
   have y9:=evvs_cell hce he 9 (zI zi a2) (by omega) rfl
   have y10:=evvs_cell hce he 10 (zI zi s1) (by omega) rfl
   have y11:=evvs_cell hce he 11 (zI zi s2) (by omega) rfl
   have y12:=evvs_cell hce he 12 (zI zi s3) (by omega) rfl
   have y13:=evvs_cell hce he 13 (zI zi s4) (by omega) rfl
   have HH:=zH hh;have HQ:=zH hq
   clear hh hq he hst hS0 hst2 hsm hce hle
   go_wp2_with fail
   clear y0 y1 y2 y3 y4 y5 y6 y7 y8 y9 y10 y11 y12 y13
   obtain ⟨gx,hgx⟩:∃ gx,wo.heap.size=gx:=⟨_,rfl⟩
   have hx0:=((HH.out.boxB (ty:=125) (cs:=[zI zi ep2,zI zi kd,zI zi nw,zI zi jb,zI zi tr,zI zi wk,zI zi tm,zI zi a0,zI zi a1,zI zi a2,zI zi s1,zI zi s2,zI zi s3,zI zi s4]) hgx).boxB (ty:=84) (cs:=[zI zi kd,zI zi nw,zI zi jb,zI zi tr,zI zi wk,zI zi tm]) (g:=gx+1) (by simp [hgx]))
   have qx0:=((HQ.out.alloc (.cells (List.toArray [zI zi ep2,zI zi kd,zI zi nw,zI zi jb,zI zi tr,zI zi wk,zI zi tm,zI zi a0,zI zi a1,zI zi a2,zI zi s1,zI zi s2,zI zi s3,zI zi s4]) 125)).alloc (.cells (List.toArray [zI zi kd,zI zi nw,zI zi jb,zI zi tr,zI zi wk,zI zi tm]) 84))
   obtain ⟨wx,hwx⟩:∃ wx,(wo.alloc (.cells (List.toArray [zI zi ep2,zI zi kd,zI zi nw,zI zi jb,zI zi tr,zI zi wk,zI zi tm,zI zi a0,zI zi a1,zI zi a2,zI zi s1,zI zi s2,zI zi s3,zI zi s4]) 125)).alloc (.cells (List.toArray [zI zi kd,zI zi nw,zI zi jb,zI zi tr,zI zi wk,zI zi tm]) 84)=wx:=⟨_,rfl⟩
   rw [hwx] at hx0 qx0
   have hwx':(wo.alloc (.cells #[zI zi ep2,zI zi kd,zI zi nw,zI zi jb,zI zi tr,zI zi wk,zI zi tm,zI zi a0,zI zi a1,zI zi a2,zI zi s1,zI zi s2,zI zi s3,zI zi s4] 125)).alloc (.cells #[zI zi kd,zI zi nw,zI zi jb,zI zi tr,zI zi wk,zI zi tm] 84)=wx:=hwx
   rw [hwx',hgx]
   have HX:=zH (hx0.drew.eq (by ac_rfl:_=(bl (gx+1) 84 [zI zi kd,zI zi nw,zI zi jb,zI zi tr,zI zi wk,zI zi tm]*bl gx 125 [zI zi ep2,zI zi kd,zI zi nw,zI zi jb,zI zi tr,zI zi wk,zI zi tm,zI zi a0,zI zi a1,zI zi a2,zI zi s1,zI zi s2,zI zi s3,zI zi s4])*(kst b bg S0*(sevs (.slice (some ⟨ge,oe,none⟩) E.length ec) E*(dsk bd d*(gblk bg bd vs now*(RN*(inum (.slice va 0 vc) []*(lay w0*R)))))))));have QX:=zH qx0.drew
   clear hx0 qx0 hwx hwx' hgx
   have mkS:∀ (W:World) (B:HP),Holds W ((bl (gx+1) 84 [zI zi kd,zI zi nw,zI zi jb,zI zi tr,zI zi wk,zI zi tm]*bl gx 125 [zI zi ep2,zI zi kd,zI zi nw,zI zi jb,zI zi tr,zI zi wk,zI zi tm,zI zi a0,zI zi a1,zI zi a2,zI zi s1,zI zi s2,zI zi s3,zI zi s4])*B)→(∀ o,W.cell? ⟨gx+1,o,none⟩=([zI zi kd,zI zi nw,zI zi jb,zI zi tr,zI zi wk,zI zi tm]:List Value)[o]?)∧W.cell? ⟨gx,0,none⟩=some (zI zi ep2)∧BlockAt W gx 125 [zI zi ep2,zI zi kd,zI zi nw,zI zi jb,zI zi tr,zI zi wk,zI zi tm,zI zi a0,zI zi a1,zI zi a2,zI zi s1,zI zi s2,zI zi s3,zI zi s4]:=fun W B h=>⟨h.left.bl.cells,h.left.swap.bl.cell 0 _ rfl,h.left.swap.bl⟩
   have MKS:=zH mkS;clear mkS
   have hr7:∀ n∈[ep2,kd,nw,jb,tr,wk,tm],I64' n:=sms_i64 HSM.out.r
   have hr4:∀ n∈[s1,s2,s3,s4],I64' n:=sms_i64 HSM.out.j
   have HR7:=zH hr7;have HR4:=zH hr4;have hl7:=nums_le hr7;have hl4:=nums_le hr4
   simp only [List.length_cons,List.length_nil] at hl7 hl4
   clear hr7 hr4
   refine wp_region_lex (fun W=>(∀ o,W.cell? ⟨gx+1,o,none⟩=([zI zi kd,zI zi nw,zI zi jb,zI zi tr,zI zi wk,zI zi tm]:List Value)[o]?)∧W.cell? ⟨gx,0,none⟩=some (zI zi ep2)∧BlockAt W gx 125 [zI zi ep2,zI zi kd,zI zi nw,zI zi jb,zI zi tr,zI zi wk,zI zi tm,zI zi a0,zI zi a1,zI zi a2,zI zi s1,zI zi s2,zI zi s3,zI zi s4]) [16,17,22,23,24,25] (by kernel_rfl) (by kernel_rfl) (MKS.out _ _ HX.out) ?_
   repeat (first|(refine LexL.none (by rfl) ?_;(try simp only [zP,zA,zB,zC]))|(refine LexL.still (v:=?_) (by rfl) ?_ ?_;rotate_left;(focus (intro W hW;(try dsimp only at hW);go_simp;(try (with_reducible rfl));done));(try simp only [zP,zA,zB,zC])))
   refine LexL.value (w1:=wx.drew.alloc (.cells (ivs [ep2,kd,nw,jb,tr,wk,tm]).toArray 3)) (v:=.slice (some ⟨wx.drew.heap.size,0,none⟩) 7 7) (by rfl) (by decide) (by go_simp;rfl) (MKS.out _ _ (HX.out.alloc _)) ?_
   try simp only [zP,zA,zB,zC]
   refine LexL.call (f:=50) (args:=#[.slice (some ⟨wx.drew.heap.size,0,none⟩) 7 7]) (w1:=wx.drew.alloc (.cells (ivs [ep2,kd,nw,jb,tr,wk,tm]).toArray 3)) (by rfl) (by decide) (by go_simp) ?_
   refine (nums_sl _ [ep2,kd,nw,jb,tr,wk,tm] _ (lay_laid ((HX.out.alloc (.cells (ivs [ep2,kd,nw,jb,tr,wk,tm]).toArray 3)).eq (by ac_rfl:_=lay w0*((bl (gx+1) 84 [zI zi kd,zI zi nw,zI zi jb,zI zi tr,zI zi wk,zI zi tm]*bl gx 125 [zI zi ep2,zI zi kd,zI zi nw,zI zi jb,zI zi tr,zI zi wk,zI zi tm,zI zi a0,zI zi a1,zI zi a2,zI zi s1,zI zi s2,zI zi s3,zI zi s4])*(kst b bg S0*(sevs (.slice (some ⟨ge,oe,none⟩) E.length ec) E*(dsk bd d*(gblk bg bd vs now*(RN*(inum (.slice va 0 vc) []*R)))))))))) (ivs_row rfl (by simp) _ rfl _) (by simp) HR7.out).mono ?_
   rintro e w6 ⟨rfl,hb6⟩
   have H6:=zH ((HX.out.alloc (.cells (ivs [ep2,kd,nw,jb,tr,wk,tm]).toArray 3)).below hb6);have Q6:=zH ((QX.out.alloc (.cells (ivs [ep2,kd,nw,jb,tr,wk,tm]).toArray 3)).trans (Quiet.below hb6));clear hb6
   refine ⟨_,rfl,MKS.out _ _ H6.out,?_⟩
   try simp only [zP,zA,zB,zC]
   obtain ⟨N,hN⟩:∃ N,nums [ep2,kd,nw,jb,tr,wk,tm]=N:=⟨_,rfl⟩
   obtain ⟨J,hJ⟩:∃ J,nums [s1,s2,s3,s4]=J:=⟨_,rfl⟩
   rw [hN] at hl7 ⊢
   rw [hJ] at hl4
   refine LexL.still (v:=.string (strOf (tRecord++N))) (by rfl) (fun W _=>exec_add_str (l:=tRecord) (m:=N) (.const (.string ⟨#[114,101,99,111,114,100]⟩)) (.tmp 127) rfl rfl rfl (by simp [tRecord];omega)) ?_
   try simp only [zP,zA,zB,zC]
   refine LexL.still (v:=.string (strOf (tRecord++N++(32::tJob)))) (by rfl) (fun W _=>exec_add_str (l:=tRecord++N) (m:=32::tJob) (.tmp 128) (.const (.string ⟨#[32,106,111,98]⟩)) rfl rfl rfl (by simp [tRecord,tJob];omega)) ?_
   try simp only [zP,zA,zB,zC]
   repeat (first|(refine LexL.none (by rfl) ?_;(try simp only [zP,zA,zB,zC]))|(refine LexL.still (v:=?_) (by rfl) ?_ ?_;rotate_left;(focus (intro W hW;(try dsimp only at hW);go_simp;(try (with_reducible rfl));done));(try simp only [zP,zA,zB,zC])))
   refine LexL.still (v:=.agg #[zI zi s1,zI zi s2,zI zi s3,zI zi s4]) (by rfl) (fun W hW=>exec_load_part 92 _ rfl gx 10 rfl [zI zi s1,zI zi s2,zI zi s3,zI zi s4] hW.2.2 rfl Tryz.underlying92 rfl (by kernel_rfl)) ?_
   try simp only [zP,zA,zB,zC]
   refine LexL.call (f:=48) (args:=#[(⟨s1,s2,s3,s4⟩:Job).val]) (w1:=w6) (by rfl) (by decide) (by go_simp;rfl) ?_
   refine (kjob_sl ⟨s1,s2,s3,s4⟩ _ (lay_laid (H6.out.eq (by ac_rfl:_=lay w0*((bl (gx+1) 84 [zI zi kd,zI zi nw,zI zi jb,zI zi tr,zI zi wk,zI zi tm]*bl gx 125 [zI zi ep2,zI zi kd,zI zi nw,zI zi jb,zI zi tr,zI zi wk,zI zi tm,zI zi a0,zI zi a1,zI zi a2,zI zi s1,zI zi s2,zI zi s3,zI zi s4])*(kst b bg S0*(sevs (.slice (some ⟨ge,oe,none⟩) E.length ec) E*(dsk bd d*(gblk bg bd vs now*(RN*(inum (.slice va 0 vc) []*R)))))))))) HR4.out).mono ?_
   rw [show jobTxt ⟨s1,s2,s3,s4⟩=J from hJ]
   rintro e w7 ⟨rfl,hb7⟩
   have H7:=zH (H6.out.below hb7);have Q7:=zH (Q6.out.trans (Quiet.below hb7));clear hb7
   refine ⟨_,rfl,MKS.out _ _ H7.out,?_⟩
   try simp only [zP,zA,zB,zC]
   have hev:evTxt ⟨⟨ep2,⟨kd,nw,jb,tr,wk,tm⟩⟩,⟨a0,a1,a2⟩,⟨s1,s2,s3,s4⟩⟩=tRecord++N++(32::tJob)++J:=by rw [←hN,←hJ];rfl
   rw [hev] at HST
   obtain ⟨X,hX⟩:∃ X,tRecord++N++(32::tJob)++J=X:=⟨_,rfl⟩
   have hXl:X.length≤300:=by rw [←hX];simp [tRecord,tJob];omega
   refine LexL.still (v:=.string (strOf X)) (by rfl) (fun W _=>hX▸exec_add_str (l:=tRecord++N++(32::tJob)) (m:=J) (.tmp 129) (.tmp 132) rfl rfl rfl (by simp [tRecord,tJob];omega)) ?_
   try simp only [zP,zA,zB,zC]
   rw [hX] at HST
   refine LexL.value (w1:=w7.alloc (.cells (svls [X]).toArray 9)) (v:=.slice (some ⟨w7.heap.size,0,none⟩) 1 1) (by rfl) (by decide) (by go_simp;rfl) (MKS.out _ _ (H7.out.alloc _)) ?_
   try simp only [zP,zA,zB,zC]
   refine LexL.call (f:=28) (args:=#[.pointer (some ⟨b,0,none⟩),.slice (some ⟨w7.heap.size,0,none⟩) 1 1]) (w1:=w7.alloc (.cells (svls [X]).toArray 9)) (by rfl) (by decide) (by go_simp) ?_
   refine (say_sl b bg S0 _ [X] _ (H7.out.alloc (.cells (svls [X]).toArray 9)).two (svls_row rfl (by simp) _ rfl _) (by simp) (by simp) (by omega) (by rw [join_one'];omega)).mono ?_
   rintro e w8 ⟨rfl,q8,h8⟩
   rw [join_one',←HST.out] at h8
   have H8:=zH h8
   have Q8:=zH ((Q7.out.alloc (.cells (svls [X]).toArray 9)).trans q8)
   clear h8 q8
   refine ⟨_,rfl,MKS.out _ _ H8.out.two,?_⟩
   try simp only [zP,zA,zB,zC]
   refine LexL.done ?_
   go_wp2_with fail
   go_roundw
   case rel=>exact ⟨k+1,by omega,by go_num,H8.out.two.right,Q8.out⟩
   case measure=>simp [intOf];omega
  ·obtain rfl:k=E.length:=by omega
   rw [List.take_length] at hh hle
   have HH:=zH hh;have HQ:=zH hq
   clear hh hq
   go_wp2_with (go_at_call 28;refine (say_sl b bg (told++logTxt E) _ [tEnd] _ (HH.out.alloc (.cells (svls [tEnd]).toArray 9)) (svls_row (by simp) (by simp) _ rfl _) (by simp) (by simp) (by rw [List.length_append];omega) (by rw [join_one'];simp [tEnd])).mono ?_;rintro e w6 ⟨rfl,q6,h6⟩)
   rw [join_one',List.append_assoc] at h6
   go_ret
   exact ⟨rfl,(HQ.out.alloc _).trans q6,(h6.eq (by ac_rfl:_=sevs (.slice ea E.length ec) E*(kst b bg (told++(logTxt E++line tEnd))*(gblk bg bd vs now*(dsk bd d*(RN*(inum (.slice va 0 vc) []*(lay w0*R)))))))).right⟩
theorem ask_sl (b bg:Nat) (told:List UInt8) (g:Gld) (v:Value) (x:List UInt8) (l:List Int) (w:World) {w0:World} {R:HP}
  (h:Holds w (kst b bg told*(gld bg g*(inum v l*(lay w0*R))))) (hg:g.Good) (ht:told.length≤300000000) (hq:askReq x l≠.what) :
  Calls Tryz.prog 27 #[.pointer (some ⟨b,0,none⟩),.string (strOf x),v] w fun e w'=>e=.returned (.bool true)∧Quiet w w'∧Holds w' (kst b bg (told++(tell g (askReq x l)).2)*(gld bg (tell g (askReq x l)).1*(inum v l*(lay w0*R)))):=by
 obtain ⟨bd,vs,h'⟩:=gld_open h.two
 have h2:Holds w (kst b bg told*(gblk bg bd vs g.now*(dsk bd g.d*(nodes3 bd vs g.f*(inum v l*(lay w0*R)))))):=h'.eq (by ac_rfl)
 have back:∀ (W:World) (td:List UInt8),Holds W (kst b bg td*(gblk bg bd vs g.now*(dsk bd g.d*(nodes3 bd vs g.f*(inum v l*(lay w0*R))))))→Holds W (kst b bg td*(gld bg g*(inum v l*(lay w0*R)))):=fun W td h=>(gld_close (h.eq (by ac_rfl:_=gblk bg bd vs g.now*(dsk bd g.d*(nodes3 bd vs g.f*(kst b bg td*(inum v l*(lay w0*R)))))))).two
 obtain ⟨lg,hl⟩:=hg
 have hd:=hl.fam.ok
 match l,hq,h2,back with
 | [],hq,h2,back=>
  by_cases e1:x=tDisk
  ·subst e1
   rw [show askReq tDisk []=.disk from by simp [askReq]]
   refine (ask_disk b bg bd vs told g.d g.now v w h2 hd ⟨hl.now.1,by have:=hl.now.2;omega⟩ ht).mono ?_
   rintro e w' ⟨he,q,k⟩
   exact ⟨he,q,back _ _ k⟩
  by_cases e2:x=tLog
  ·subst e2
   rw [show askReq tLog []=.log from by simp [askReq,e1]]
   refine (ask_log b bg bd vs told g.d g.now v w h2 hd ht).mono ?_
   rintro e w' ⟨he,q,k⟩
   exact ⟨he,q,back _ _ k⟩
  exact absurd (by simp [askReq,e1,e2]) hq
 | [a],hq,h2,back=>
  by_cases e1:x=tHolders
  ·subst e1
   rw [show askReq tHolders [a]=.holders a from by simp [askReq]]
   refine (ask_holders b bg bd vs told g.d g.now a v w h2 hd ht).mono ?_
   rintro e w' ⟨he,q,k⟩
   exact ⟨he,q,back _ _ k⟩
  exact absurd (by simp [askReq,e1]) hq
 | [n,j],hq,h2,back=>
  by_cases e1:x=tJob
  ·subst e1
   rw [show askReq tJob [n,j]=.job n j from by simp [askReq]]
   cases hn:g.nod n with
   | none=>
    refine (ask_job_none b bg bd vs told g.d g.f g.now v n j w h2 hn ht).mono ?_
    rintro e w' ⟨he,q,k⟩
    refine ⟨he,q,?_⟩
    have:tell g (.job n j)=(g,line (tNo++nums [5])):=by unfold tell;simp only [hn]
    rw [this]
    exact back _ _ k
   | some nd=>
    refine (ask_job_some b bg bd vs told g.d g.f g.now v n j nd w h2 hn (hl.nodOk hn) ht).mono ?_
    rintro e w' ⟨he,q,k⟩
    refine ⟨he,q,?_⟩
    have:tell g (.job n j)=(g,line (tJob++jobTxt (nd.t.job j))):=by unfold tell;simp only [hn]
    rw [this]
    exact back _ _ k
  exact absurd (by simp [askReq,e1]) hq
 | _::_::_::_,hq,_,_=>exact absurd rfl hq
def sve (x:List UInt8):Value:=.string (strOf x)
theorem split_sl (s:List UInt8) (w:World) (hl:Laid w) (hs:s.length≤1000000) :
  Calls Tryz.prog 22 #[.string (strOf s),.string ⟨#[32]⟩] w fun e w'=>e=.returned (.slice (some ⟨w.heap.size,0,none⟩) (pieces 32 s).length (pieces 32 s).length)∧w'=w.alloc (.cells (svls (pieces 32 s)).toArray 9):=by
 obtain ⟨m,hm⟩:=hl.max
 have hd:(strOf s).data.toList=s:=strOf_data s
 have hc:Lib.countB (strOf s) ⟨#[32]⟩=Lib.count s [32]:=by show Lib.count (strOf s).data.toList [32]=_;rw [hd]
 have h1:=Lib.splitB_all ⟨#[32]⟩ (show 1≤1 by decide) 0 _ (strOf s) rfl
 have h2:=Lib.splitB_data ⟨#[32]⟩ 0 (Lib.countB (strOf s) ⟨#[32]⟩) (strOf s)
 rw [hd,show (⟨#[32]⟩:ByteArray).data.toList=[32] from rfl,hc,splitK_pieces] at h2
 rw [hc] at h1
 have h3:(pieces 32 s).length=Lib.count s [32]+1:=by rw [←h2,List.length_map,h1]
 have h4:(Lib.splitB ⟨#[32]⟩ 0 (Lib.count s [32]) (strOf s)).map Value.string=svls (pieces 32 s):=by
  rw [←h2]
  simp only [svls,List.map_map]
  exact List.map_congr_left fun x _=>by simp [strOf_list]
 have:=Tryz.strings_Split (strOf s) ⟨#[32]⟩ m w (by rw [strOf_size];omega) hm (show 1≤1 by decide)
 rw [hc,h4] at this
 rw [h3]
 exact this
theorem empty_gives (x:List UInt8) (W:World):FnGives Tryz.prog 23 #[] #[sve x] (.bool (decide (x=[]))) W:=by
 show Calls Tryz.prog 23 #[.string (strOf x)] W _
 have hx:((strOf x).toList==[])=decide (x=[]):=by
  by_cases e:x=[]
  ·subst e;exact (bytes_yes []).trans (by simp)
  ·rw [show decide (x=[])=false by simpa using e]
   exact bytes_no e
 go_enter Tryz.func23,Tryz.ntmps23
 go_wp2
 all_goals (go_ret;exact ⟨by simp_all,0,rfl⟩)
theorem putRow_at {w:World} {g:Nat} {ty:TypeId} {cs:List Value} (h:BlockAt w g ty cs) (d:List (List UInt8)) (hd:d.length=cs.length) (q:Nat) :
  BlockAt (Sort.putRow sve (Sort.ahead w q) g 0 d.toArray) g ty (svls d):=by
 unfold BlockAt at *
 unfold Sort.putRow Sort.mapBlock
 have h':(Sort.ahead w q).heap[g]? = some (.cells cs.toArray ty (0,0)):=h
 simp only [Array.getElem?_modify,if_true,h',Option.map_some,Sort.onCells]
 congr 2
 apply Array.ext_getElem?
 intro k
 simp only [Sort.putCells,Array.getElem?_mapIdx,Nat.zero_le,true_and,Nat.zero_add,List.getElem?_toArray,Nat.sub_zero,List.size_toArray]
 by_cases hk:k<d.length
 ·rw [List.getElem?_eq_getElem (by omega:k<cs.length),Option.map_some,if_pos hk]
  simp [svls,sve,hk]
 ·have h1:cs[k]? = none:=List.getElem?_eq_none (by omega)
  have h2:(svls d)[k]? = none:=List.getElem?_eq_none (by simp only [svls,List.length_map];omega)
  rw [h1,h2]
  rfl
theorem putRow_other {w:World} {g k:Nat} (hk:k≠g) (d:List (List UInt8)) (q:Nat):(Sort.putRow sve (Sort.ahead w q) g 0 d.toArray).heap[k]? = w.heap[k]? := by
 unfold Sort.putRow Sort.mapBlock
 simp only [Array.getElem?_modify,Sort.heap_ahead]
 rw [if_neg (Ne.symm hk)]
theorem delete_sl (L:List (List UInt8)) (g:Nat) (w:World) (hn:L.length≤1000000) {R:HP} (h:Holds w (bl g 9 (svls L)*R)) :
  Calls Tryz.prog 21 #[.slice (some ⟨g,0,none⟩) L.length L.length,.func (.func 23) #[] #[]] w fun e w'=>e=.returned (.slice (some ⟨g,0,none⟩) (L.filter fun x => !decide (x=[])).length L.length)∧Quiet w w'∧Holds w' (wds (.slice (some ⟨g,0,none⟩) (L.filter fun x => !decide (x=[])).length L.length) (L.filter fun x => !decide (x=[]))*R):=by
 have eg:∀ args w,(callFunc 23 args).run Tryz.prog w=.ok (.enter 23 args) w:=enters_of Tryz.func23 (by kernel_rfl) rfl
 have hH:Sort.Holds sve w g 0 L.toArray:=fun j hj=>⟨by
  rw [Nat.zero_add]
  refine h.bl.cell j _ ?_
  have hj':j<L.length:=by simpa using hj
  simp [svls,sve,hj'],h.bl.free _⟩
 have hc:=Tryz.slices_DeleteFunc sve (fun _=>rfl) (fun x=>decide (x=[])) 23 #[] eg [] Tryz.zeroValue9 g 0 L.length L.toArray w (fun W x _=>empty_gives x W) (fun n os dk x _=>empty_gives x _) hH (by simp;omega) (by simp)
 simp only [List.toList_toArray,List.size_toArray] at hc
 refine hc.mono ?_
 obtain ⟨F,hF⟩:∃ F,(L.filter fun x => !decide (x=[]))=F:=⟨_,rfl⟩
 have hle:F.length≤L.length:=hF▸List.length_filter_le _ _
 rw [hF]
 rintro e w' ⟨rfl,q,rfl⟩
 have hb:=putRow_at h.bl (F++List.replicate (L.length-F.length) []) (by simp [svls];omega) q
 refine ⟨rfl,⟨rfl,rfl,rfl,by simp⟩,?_⟩
 obtain ⟨G,⟨h1,rfl⟩,k⟩:=h.open
 refine k _ (fun k=>(Value.slice (some ⟨g,0,none⟩) F.length L.length).ownBlock=some k) _ ⟨⟨by simp [svls],?_,.inr ⟨g,_,_,rfl,hb,hle,?_,?_,?_⟩⟩,rfl⟩ ⟨rfl,rfl,rfl,by simp,fun k _ hk=>putRow_other hk _ q⟩ ?_
 ·intro v hv
  obtain ⟨x,_,rfl⟩:=List.mem_map.1 hv
  rfl
 ·simp [svls];omega
 ·unfold maxLen;omega
 ·simp [svls]
 ·intro k hk
  simp [Value.ownBlock] at hk
  exact .inl hk.symm
end Go.Proofs.YtfihmpkkpgmdhaaGreatDoor
