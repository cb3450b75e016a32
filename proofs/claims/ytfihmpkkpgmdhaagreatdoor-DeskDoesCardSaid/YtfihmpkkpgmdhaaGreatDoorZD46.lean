/-
  What the proof of DeskDoes leans on: definitions, laws, contracts of functions. No condition besides those that each theorem names.
-/
import Derived.Test.YtfihmpkkpgmdhaaGreatDoorZD45
import Derived.Lib.IndexAny
import Derived.Test.YtfihmpkkpgmdhaaGreatDoorZD33
set_option maxRecDepth 100000
set_option maxHeartbeats 16000000
set_option linter.unusedVariables false
set_option linter.unusedSimpArgs false
set_option linter.unnecessarySimpa false
namespace Go.Proofs.YtfihmpkkpgmdhaaGreatDoor
open Go.RowKit
open Go.Lib renaming hid → zH
open Go.Value renaming int → zI
open Go.IntKind renaming i64 → zi
theorem contains_sl (s:List UInt8) (w:World):Calls Tryz.prog 13 #[.string (strOf s),.string ⟨#[10]⟩] w fun e w'=>e=.returned (.bool (s.contains 10))∧w'=w:=by
 rw [Lib.contains_iff_indexByte]
 have:=Tryz.strings_Contains_one (strOf s) 10 w
 rw [strOf_data] at this
 exact this
def brk:List (List UInt8)→Option Nat
 | []=>none
 | s::l=>if s.contains 10 then some 0 else (brk l).map (· + 1)
theorem brk_none:∀ {l:List (List UInt8)},brk l=none→∀ s∈l,s.contains 10=false
 | [],_,s,hs=>by cases hs
 | a::l,h,s,hs=>by
  unfold brk at h
  split at h
  ·cases h
  ·rename_i ha
   rcases List.mem_cons.1 hs with rfl|hs
   ·simpa using ha
   ·exact brk_none (by simpa using h) s hs
theorem brk_some:∀ {l:List (List UInt8)} {i:Nat},brk l=some i→∃ s,l[i]? = some s∧s.contains 10=true∧∀ j x,j<i→l[j]? = some x→x.contains 10=false
 | [],_,h=>by cases h
 | a::l,i,h=>by
  unfold brk at h
  split at h
  ·rename_i ha
   injection h with h
   subst h
   exact ⟨a,rfl,ha,fun j x hj=>absurd hj (Nat.not_lt_zero _)⟩
  ·rename_i ha
   obtain ⟨k,hk,rfl⟩:=Option.map_eq_some_iff.1 h
   obtain ⟨s,h1,h2,h3⟩:=brk_some hk
   refine ⟨s,by simpa using h1,h2,fun j x hj hx=>?_⟩
   cases j with
   | zero=>simp at hx;subst hx;simpa using ha
   | succ j=>exact h3 j x (by omega) (by simpa using hx)
theorem results_mix2 {P:Program} {fn:Func} {tmps:Array Value} {w:World} {a b:Nat} {t:TypeId} {ad:Addr} {v x:Value} (hr:fn.results=#[.tmp b,.cell a t]) (ha:tmps.getD a undef=.pointer (some ad)) (hb:tmps.getD b undef=x) (hl:(loadVar t ad).run P w=.ok v w):(results fn tmps).run P w=.ok (.tuple #[x,v]) w:=by
 have h1:(asAddr (.pointer (some ad))).run P w=.ok ad w:=rfl
 have ha':tmps[a]?.getD undef=.pointer (some ad):=by simpa using ha
 have hb':tmps[b]?.getD undef=x:=by simpa using hb
 unfold results
 rw [hr]
 simp [Sem.run_bind,ha',hb',h1,hl]
theorem tells_take (g:Gld) (l:List (List UInt8)) (k:Nat) (s:List UInt8) (h:l[k]? = some s):tells g (l.take (k+1))=((tellL (tells g (l.take k)).1 s).1,(tells g (l.take k)).2++(tellL (tells g (l.take k)).1 s).2):=by
 rw [List.take_add_one,h,←tells_snoc]
 rfl
theorem do_ok (b bg:Nat) (g:Gld) (v:Value) (l:List (List UInt8)) (w:World) {w0:World} {R:HP} (h:Holds w (kbl b bg*(gld bg g*(lay w0*R)))) (hg:g.Good) (hv:∀ W,Holds W (lay w0*R)→RowAt W v l.length (svls l)) (hn:l.length≤150) (hz:∀ s∈l,s.length≤9000) (hb:brk l=none) :
  Calls Tryz.prog 9 #[.pointer (some ⟨b,0,none⟩),v] w fun e w'=>e=.returned (.tuple #[.string (strOf (tells g l).2),.agg #[zI zi 0,zI zi 0]])∧Quiet w w'∧Holds w' (kbl b bg*(gld bg (tells g l).1*(lay w0*R))):=by
 obtain ⟨a,c,rfl,c1,c2⟩:=(hv w h.right.right).shape
 obtain ⟨q0,hq0⟩:∃ q,w.heap.size=q:=⟨_,rfl⟩
 obtain ⟨wa,hwa,H0,Q0⟩:∃ wa,w.alloc (.cells #[zI zi 0,zI zi 0] 31)=wa∧Hid (Holds wa (bl q0 31 [zI zi 0,zI zi 0]*(kbl b bg*(gld bg g*(lay w0*R)))))∧Hid (Quiet w wa):=
  ⟨_,rfl,zH (h.boxB (ty:=31) (cs:=[zI zi 0,zI zi 0]) hq0),zH ((Quiet.refl w).alloc _)⟩
 have HG:=zH hg;have HV:=zH hv;have HZ:=zH hz;have HB:=zH (brk_none hb)
 clear h hg hv hz hb
 have hn1:¬ (150:Int)<(l.length:Int):=by omega
 go_enter Tryz.func9,Tryz.ntmps9
 go_wp2_with fail
 go_loopw [16] (fun i wr=>∃ k:Nat,k≤l.length∧i=zI zi k∧wr=wa) (fun i _=>l.length-(intOf i).toNat)
 case atStart=>exact ⟨0,by omega,rfl,rfl⟩
 case round=>
  obtain ⟨k,hk,rfl,rfl⟩:=hrel
  by_cases hlt:k<l.length
  ·obtain ⟨s,hs⟩:∃ s,l[k]? = some s:=⟨_,List.getElem?_eq_getElem hlt⟩
   obtain ⟨gl,ol,cl,e,-,-,hc⟩:=(HV.out _ H0.out.right.right.right).get (by omega)
   simp only [Value.slice.injEq] at e
   obtain ⟨rfl,-,rfl⟩:=e
   have y0:=hc k _ (svls_get hs)
   have hno:=HB.out s (List.mem_of_getElem? hs)
   clear hc hs
   go_wp2_with (go_at_call 13;refine (contains_sl s _).mono ?_;rw [hno];rintro e w1 ⟨rfl,rfl⟩)
   go_roundw
   case rel=>exact ⟨k+1,by omega,by go_num,trivial⟩
   case measure=>simp [intOf];omega
  ·obtain rfl:k=l.length:=by omega
   go_wp2_with fail
   refine (reset_sl b bg _ H0.out.two).mono ?_
   rintro e w2 ⟨rfl,q2,h2⟩
   have H2:=zH h2;have Q2:=zH (Q0.out.trans q2)
   clear h2 q2
   go_wp2_with fail
   go_loopw [32] (fun i wr=>∃ k:Nat,k≤l.length∧i=zI zi k∧Holds wr (kst b bg (tells g (l.take k)).2*(gld bg (tells g (l.take k)).1*(lay w0*(bl q0 31 [zI zi 0,zI zi 0]*R))))∧Quiet w wr) (fun i _=>l.length-(intOf i).toNat)
   case atStart=>exact ⟨0,by omega,rfl,H2.out.eq (by simp only [List.take_zero,tells];ac_rfl),Q2.out⟩
   case round=>
    obtain ⟨k,hk,rfl,hh,hq⟩:=hrel
    have HH:=zH hh;have HQ:=zH hq
    have hrow:=HV.out _ (hh.eq (by ac_rfl:_=kst b bg (tells g (l.take k)).2*(gld bg (tells g (l.take k)).1*(bl q0 31 [zI zi 0,zI zi 0]*(lay w0*R))))).right.right.right
    have HR:=zH hrow
    clear hh hq hrow
    obtain ⟨wo,rfl⟩:∃ wo:World,wo=wr:=⟨_,rfl⟩
    by_cases hlt:k<l.length
    ·obtain ⟨s,hs⟩:∃ s,l[k]? = some s:=⟨_,List.getElem?_eq_getElem hlt⟩
     obtain ⟨gl,ol,cl,e,-,-,hc⟩:=HR.out.get (by omega)
     simp only [Value.slice.injEq] at e
     obtain ⟨rfl,-,rfl⟩:=e
     have y0:=hc k _ (svls_get hs)
     have hzs:=HZ.out s (List.mem_of_getElem? hs)
     have hst:=tells_take g l k s hs
     have hgk:=tells_good (l.take k) HG.out
     have hlk:=tells_len (l.take k) HG.out
     rw [List.length_take] at hlk
     have HST:=zH hst;have HGK:=zH hgk
     clear hc hs hst hgk
     go_wp2_with (go_at_call 15;refine (line_sl b bg _ _ s _ HH.out HGK.out hzs (by omega)).mono ?_;rintro e w3 ⟨rfl,q3,h3⟩;have H3:=zH h3;have Q3:=zH (HQ.out.trans q3);clear h3 q3)
     go_roundw
     case rel=>exact ⟨k+1,by omega,by go_num,by rw [HST.out];exact H3.out,Q3.out⟩
     case measure=>simp [intOf];omega
    ·obtain rfl:k=l.length:=by omega
     have HH2:=zH (show Holds wo (kst b bg (tells g l).2*(gld bg (tells g l).1*(lay w0*(bl q0 31 [zI zi 0,zI zi 0]*R)))) by have:=HH.out;rwa [List.take_length] at this)
     go_wp2_with fail
     refine (string_sl b bg _ _ HH2.out).mono ?_
     rintro e w4 ⟨rfl,q4,h4⟩
     have H4:=zH (h4.eq (by ac_rfl:_=bl q0 31 [zI zi 0,zI zi 0]*(kbl b bg*(gld bg (tells g l).1*(lay w0*R)))));have Q4:=zH (HQ.out.trans q4)
     clear h4 q4
     go_wp2_with (refine wpList_store_whole rfl 31 _ _ rfl q0 [zI zi 0,zI zi 0] rfl rfl H4.out.bl rfl (by kernel_rfl) (by simp [Ones,Value.oneCell']) ?_;intro w5 h1' h2' h3';have H5:=zH (H4.out.grown h2' h1');have Q5:=zH (Q4.out.trans (Quiet.grown h2'));clear h1' h2' h3')
     have hl:=run_load_part (P:=Tryz.prog) (off:=0) (ty:=31) (vs:=[zI zi 0,zI zi 0]) H5.out.bl rfl Tryz.underlying31 rfl (by kernel_rfl)
     exact bodyPost_ret (results_mix2 rfl rfl rfl hl) rfl ⟨rfl,Q5.out,H5.out.right⟩
theorem do_many (b:Nat) (v:Value) (n:Nat) (w:World) {R:HP} (h:Holds w R) (hv:∃ a c,v=.slice a n c∧n≤c∧c≤9223372036854775807) (hn:150<n) :
  Calls Tryz.prog 9 #[.pointer (some ⟨b,0,none⟩),v] w fun e w'=>e=.returned (.tuple #[.string (strOf []),.agg #[zI zi 12,zI zi (-1)]])∧Quiet w w'∧Holds w' R:=by
 obtain ⟨a,c,rfl,c1,c2⟩:=hv
 obtain ⟨q0,hq0⟩:∃ q,w.heap.size=q:=⟨_,rfl⟩
 obtain ⟨wa,hwa,H0,Q0⟩:∃ wa,w.alloc (.cells #[zI zi 0,zI zi 0] 31)=wa∧Hid (Holds wa (bl q0 31 [zI zi 0,zI zi 0]*R))∧Hid (Quiet w wa):=
  ⟨_,rfl,zH (h.boxB (ty:=31) (cs:=[zI zi 0,zI zi 0]) hq0),zH ((Quiet.refl w).alloc _)⟩
 clear h
 have hn1:(150:Int)<(n:Int):=by omega
 go_enter Tryz.func9,Tryz.ntmps9
 go_wp2_with (refine wpList_store_whole rfl 31 _ _ rfl q0 [zI zi 12,zI zi (-1)] rfl rfl H0.out.bl rfl (by kernel_rfl) (by simp [Ones,Value.oneCell']) ?_;intro w5 h1' h2' h3';have H5:=zH (H0.out.grown h2' h1');have Q5:=zH (Q0.out.trans (Quiet.grown h2'));clear h1' h2' h3')
 have hl:=run_load_part (P:=Tryz.prog) (off:=0) (ty:=31) (vs:=[zI zi 12,zI zi (-1)]) H5.out.bl rfl Tryz.underlying31 rfl (by kernel_rfl)
 exact bodyPost_ret (results_mix2 rfl rfl rfl hl) rfl ⟨rfl,Q5.out,H5.out.right⟩
theorem do_brk (b:Nat) (v:Value) (l:List (List UInt8)) (i:Nat) (w:World) {R:HP} (h:Holds w R) (hv:RowAt w v l.length (svls l)) (hn:l.length≤150) (hb:brk l=some i) :
  Calls Tryz.prog 9 #[.pointer (some ⟨b,0,none⟩),v] w fun e w'=>e=.returned (.tuple #[.string (strOf []),.agg #[zI zi 13,zI zi i]])∧Quiet w w'∧Holds w' R:=by
 obtain ⟨t,hti,htc,htj⟩:=brk_some hb
 have hil:i<l.length:=(List.getElem?_eq_some_iff.1 hti).1
 obtain ⟨gl,ol,cl,rfl,c1,c2,hc⟩:=hv.get (by omega)
 obtain ⟨q0,hq0⟩:∃ q,w.heap.size=q:=⟨_,rfl⟩
 have hc':∀ j u,(svls l)[j]? = some u→(w.alloc (.cells #[zI zi 0,zI zi 0] 31)).cell? ⟨gl,ol+j,none⟩=some u:=fun j u hj=>Lib.cell?_alloc_some _ (hc j u hj)
 obtain ⟨wa,hwa,H0,Q0,HC⟩:∃ wa,w.alloc (.cells #[zI zi 0,zI zi 0] 31)=wa∧Hid (Holds wa (bl q0 31 [zI zi 0,zI zi 0]*R))∧Hid (Quiet w wa)∧Hid (∀ j u,(svls l)[j]? = some u→wa.cell? ⟨gl,ol+j,none⟩=some u):=
  ⟨_,rfl,zH (h.boxB (ty:=31) (cs:=[zI zi 0,zI zi 0]) hq0),zH ((Quiet.refl w).alloc _),zH hc'⟩
 have HT:=zH hti;have HTC:=zH htc;have HTJ:=zH htj
 clear h hv hb hti htc htj hc hc'
 have hn1:¬ (150:Int)<(l.length:Int):=by omega
 go_enter Tryz.func9,Tryz.ntmps9
 go_wp2_with fail
 go_loopw [16] (fun x wr=>∃ k:Nat,k≤i∧x=zI zi k∧wr=wa) (fun x _=>l.length-(intOf x).toNat)
 case atStart=>exact ⟨0,by omega,rfl,rfl⟩
 case round=>
  obtain ⟨k,hk,rfl,rfl⟩:=hrel
  obtain ⟨s,hs⟩:∃ s,l[k]? = some s:=⟨_,List.getElem?_eq_getElem (by omega)⟩
  have hlt:k<l.length:=by omega
  have y0:=HC.out k _ (svls_get hs)
  by_cases hki:k<i
  ·have hno:=HTJ.out k s hki hs
   clear hs
   go_wp2_with (go_at_call 13;refine (contains_sl s _).mono ?_;rw [hno];rintro e w1 ⟨rfl,rfl⟩)
   go_roundw
   case rel=>exact ⟨k+1,by omega,by go_num,trivial⟩
   case measure=>simp [intOf];omega
  ·obtain rfl:k=i:=by omega
   have hst:t=s:=Option.some.inj (HT.out.symm.trans hs)
   have hyes:s.contains 10=true:=hst▸HTC.out
   clear hs hst
   go_wp2_with (first|(go_at_call 13;refine (contains_sl s _).mono ?_;rw [hyes];rintro e w1 ⟨rfl,rfl⟩)|(refine wpList_store_whole rfl 31 _ _ rfl q0 [zI zi 13,zI zi k] rfl rfl H0.out.bl rfl (by kernel_rfl) (by simp [Ones,Value.oneCell']) ?_;intro w5 h1' h2' h3';have H5:=zH (H0.out.grown h2' h1');have Q5:=zH (Q0.out.trans (Quiet.grown h2'));clear h1' h2' h3'))
   have hl:=run_load_part (P:=Tryz.prog) (off:=0) (ty:=31) (vs:=[zI zi 13,zI zi k]) H5.out.bl rfl Tryz.underlying31 rfl (by kernel_rfl)
   exact bodyPost_ret (results_mix2 rfl rfl rfl hl) rfl ⟨rfl,Q5.out,H5.out.right⟩
theorem rfault_sl (c a:Int) (w:World) {R:HP} (h:Holds w R):Calls Tryz.prog 17 #[zI zi c,zI zi a] w fun e w'=>e=.returned (.agg #[zI zi c,zI zi a])∧Quiet w w'∧Holds w' R:=by
 obtain ⟨q0,hq0⟩:∃ q,w.heap.size=q:=⟨_,rfl⟩
 have H0:=zH (h.boxB (ty:=31) (cs:=[zI zi c,zI zi a]) hq0)
 clear h
 go_enter Tryz.func17,Tryz.ntmps17
 go_wp2
 have hl:=run_load_part (P:=Tryz.prog) (off:=0) (ty:=31) (vs:=[zI zi c,zI zi a]) H0.out.bl rfl Tryz.underlying31 rfl (by kernel_rfl)
 exact bodyPost_ret (results_cell1 rfl rfl hl) rfl ⟨rfl,(Quiet.refl w).alloc _,H0.out.right⟩
theorem brk_all':∀ {l:List (List UInt8)},(∀ s∈l,s.contains 10=false)→brk l=none
 | [],_=>rfl
 | a::l,h=>by
  unfold brk
  rw [if_neg (by rw [h a (List.mem_cons_self ..)];decide),brk_all' fun s hs=>h s (List.mem_cons_of_mem _ hs)]
  rfl
theorem brk_at:∀ {l:List (List UInt8)} {k:Nat} {s:List UInt8},l[k]? = some s→s.contains 10=true→(∀ j x,j<k→l[j]? = some x→x.contains 10=false)→brk l=some k
 | [],_,_,h,_,_=>by simp at h
 | a::l,0,s,h,hs,_=>by
  simp at h
  subst h
  unfold brk
  rw [if_pos hs]
 | a::l,k+1,s,h,hs,hj=>by
  unfold brk
  rw [if_neg (by rw [hj 0 a (by omega) rfl];decide),brk_at (l:=l) (k:=k) (by simpa using h) hs fun j x h1 h2=>hj (j+1) x (by omega) (by simpa using h2)]
  rfl
theorem first_ten:∀ {s:List UInt8},s.contains 10=true→∃ p:Nat,s[p]? = some 10∧∀ (q:Nat) (b:UInt8),q<p→s[q]? = some b→b≠10
 | [],h=>by simp at h
 | a::s,h=>by
  by_cases ha:a=10
  ·exact ⟨0,by simp [ha],fun q b hq=>absurd hq (Nat.not_lt_zero _)⟩
  ·have hs:s.contains 10=true:=by
    simp only [List.contains_cons,Bool.or_eq_true,beq_iff_eq] at h
    rcases h with h|h
    ·exact absurd h.symm ha
    ·exact h
   obtain ⟨p,h1,h2⟩:=first_ten hs
   refine ⟨p+1,by simpa using h1,fun q b hq hb=>?_⟩
   cases q with
   | zero=>simp at hb;subst hb;exact ha
   | succ q=>exact h2 q b (by omega) (by simpa using hb)
theorem ten_no {S : ByteArray} {q : Nat} {b : UInt8} {hq : q < S.size} (hg : S[q]'hq = b) (hb : b ≠ 10) : ¬ ((S[q]'hq).toNat : Int) = 10 := by
  rw [hg]
  intro e
  exact hb (UInt8.toNat_inj.1 (by have : b.toNat = 10 := by omega
                                  rw [this]; rfl))
theorem lfault_many (v:Value) (n:Nat) (w:World) {R:HP} (h:Holds w R) (hv:∃ a c,v=.slice a n c∧n≤c∧c≤9223372036854775807) (hn:150<n) :
  Calls Tryz.prog 10 #[v] w fun e w'=>e=.returned (.agg #[zI zi 12,zI zi (-1)])∧Quiet w w'∧Holds w' R:=by
 obtain ⟨a,c,rfl,c1,c2⟩:=hv
 obtain ⟨q0,hq0⟩:∃ q,w.heap.size=q:=⟨_,rfl⟩
 obtain ⟨wa,hwa,H0,Q0⟩:∃ wa,w.alloc (.cells #[zI zi 0,zI zi 0] 31)=wa∧Hid (Holds wa (bl q0 31 [zI zi 0,zI zi 0]*R))∧Hid (Quiet w wa):=
  ⟨_,rfl,zH (h.boxB (ty:=31) (cs:=[zI zi 0,zI zi 0]) hq0),zH ((Quiet.refl w).alloc _)⟩
 clear h
 have hn1:(150:Int)<(n:Int):=by omega
 go_enter Tryz.func10,Tryz.ntmps10
 go_wp2_with fail
 refine (rfault_sl 12 (-1) _ H0.out).mono ?_
 rintro e w2 ⟨rfl,q2,h2⟩
 have H2:=zH h2;have Q2:=zH (Q0.out.trans q2)
 clear h2 q2
 go_wp2_with (refine wpList_store_whole rfl 31 _ _ rfl q0 [zI zi 12,zI zi (-1)] rfl rfl H2.out.bl rfl (by kernel_rfl) (by simp [Ones,Value.oneCell']) ?_;intro w5 h1' h2' h3';have H5:=zH (H2.out.grown h2' h1');have Q5:=zH (Q2.out.trans (Quiet.grown h2'));clear h1' h2' h3')
 have hl:=run_load_part (P:=Tryz.prog) (off:=0) (ty:=31) (vs:=[zI zi 12,zI zi (-1)]) H5.out.bl rfl Tryz.underlying31 rfl (by kernel_rfl)
 exact bodyPost_ret (results_cell1 rfl rfl hl) rfl ⟨rfl,Q5.out,H5.out.right⟩
theorem lfault_few (v:Value) (l:List (List UInt8)) (w:World) {R:HP} (h:Holds w R) (hv:RowAt w v l.length (svls l)) (hn:l.length≤150) (hz:∀ s∈l,s.length≤9000) :
  Calls Tryz.prog 10 #[v] w fun e w'=>∃ c a:Int,e=.returned (.agg #[zI zi c,zI zi a])∧Quiet w w'∧Holds w' R∧(brk l=none→c=0∧a=0)∧(∀ i,brk l=some i→c=13∧a=i):=by
 obtain ⟨va,vc,rfl,d1,d2⟩:=hv.shape
 obtain ⟨q0,hq0⟩:∃ q,w.heap.size=q:=⟨_,rfl⟩
 obtain ⟨wa,hwa,H0,Q0,HV⟩:∃ wa,w.alloc (.cells #[zI zi 0,zI zi 0] 31)=wa∧Hid (Holds wa (bl q0 31 [zI zi 0,zI zi 0]*R))∧Hid (Quiet w wa)∧Hid (RowAt wa (.slice va l.length vc) l.length (svls l)):=
  ⟨_,rfl,zH (h.boxB (ty:=31) (cs:=[zI zi 0,zI zi 0]) hq0),zH ((Quiet.refl w).alloc _),zH (hv.alloc _)⟩
 have HZ:=zH hz
 clear h hv hz
 have hn1:¬ (150:Int)<(l.length:Int):=by omega
 go_enter Tryz.func10,Tryz.ntmps10
 go_wp2_with fail
 clear hwa hq0
 go_loopw [3] (fun vi wr=>∃ k:Nat,k≤l.length∧vi=zI zi k∧wr=wa∧Hid (∀ j x,j<k→l[j]? = some x→x.contains 10=false)) (fun vi _=>l.length-(intOf vi).toNat)
 case atStart=>exact ⟨0,by omega,rfl,rfl,zH (fun j x hj=>absurd hj (Nat.not_lt_zero _))⟩
 case round=>
  obtain ⟨k,hk,rfl,rfl,HK⟩:=hrel
  by_cases hlt:k<l.length
  ·obtain ⟨s,hs⟩:∃ s,l[k]? = some s:=⟨_,List.getElem?_eq_getElem hlt⟩
   obtain ⟨gl,ol,cl,e,-,-,hc⟩:=HV.out.get (by omega)
   simp only [Value.slice.injEq] at e
   obtain ⟨rfl,-,rfl⟩:=e
   have y0:=hc k _ (svls_get hs)
   have hzs:=HZ.out s (List.mem_of_getElem? hs)
   have hss:=strOf_size s
   obtain ⟨S,hS⟩:∃ S,strOf s=S:=⟨_,rfl⟩
   rw [hS] at y0 hss
   have hSl:S.size≤9000:=by omega
   have HS:=zH hS;have HSS:=zH hss;have HL:=zH hs
   clear hc hs hS hss hzs
   obtain ⟨wo,rfl⟩:∃ wo:World,wo=wr:=⟨_,rfl⟩
   go_wp2_with fail
   go_loopw [4] (fun vj wx=>∃ m:Nat,m≤S.size∧vj=zI zi m∧wx=wo∧Hid (∀ q b,q<m→s[q]? = some b→b≠10)) (fun vj _=>S.size-(intOf vj).toNat)
   case atStart=>exact ⟨0,by omega,rfl,rfl,zH (fun j x hj=>absurd hj (Nat.not_lt_zero _))⟩
   case round=>
    obtain ⟨m,hm,rfl,rfl,HM⟩:=hrel
    by_cases hlm:m<S.size
    ·have hml:m<s.length:=by rw [←HSS.out];exact hlm
     obtain ⟨b,hb⟩:∃ b,s[m]? = some b:=⟨_,List.getElem?_eq_getElem hml⟩
     have hg:S[m]'hlm=b:=str_get HS.out hb hlm
     have hlz:(m:Int)<(S.size:Int):=by omega
     by_cases hb10:b=10
     ·have hbt:((S[m]'hlm).toNat:Int)=10:=by rw [hg,hb10];rfl
      have hbrk:brk l=some k:=by
       have hsc:s.contains 10=true:=by
        rw [List.contains_iff_mem,←hb10]
        exact List.mem_of_getElem? hb
       exact brk_at HL.out hsc fun j x hj hx=>HK.out j x hj hx
      have HBR:=zH hbrk
      clear hg hb10 hb hml hbrk
      go_wp2_with fail
      refine (rfault_sl 13 k _ H0.out).mono ?_
      rintro e w2 ⟨rfl,q2,h2⟩
      have H2:=zH h2;have Q2:=zH (Q0.out.trans q2)
      clear h2 q2
      go_wp2_with (refine wpList_store_whole rfl 31 _ _ rfl q0 [zI zi 13,zI zi k] rfl rfl H2.out.bl rfl (by kernel_rfl) (by simp [Ones,Value.oneCell']) ?_;intro w5 h1' h2' h3';have H5:=zH (H2.out.grown h2' h1');have Q5:=zH (Q2.out.trans (Quiet.grown h2'));clear h1' h2' h3')
      have hl:=run_load_part (P:=Tryz.prog) (off:=0) (ty:=31) (vs:=[zI zi 13,zI zi k]) H5.out.bl rfl Tryz.underlying31 rfl (by kernel_rfl)
      exact bodyPost_ret (results_cell1 rfl rfl hl) rfl ⟨_,_,rfl,Q5.out,H5.out.right,fun e=>(by rw [HBR.out] at e;cases e),fun i e=>(by rw [HBR.out] at e;injection e with e;subst e;exact ⟨rfl,rfl⟩)⟩
     ·have hbt:=ten_no hg hb10
      have HB:=zH hb;have HB10:=zH hb10
      clear hg hb hb10 hml
      go_wp2_with fail
      go_roundw
      case rel=>exact ⟨m+1,by omega,by go_num,trivial,zH (fun q x hq hx=>by
       by_cases e:q<m
       ·exact HM.out q x e hx
       ·obtain rfl:q=m:=by omega
        rw [HB.out] at hx
        injection hx with hx
        subst hx
        exact HB10.out)⟩
      case measure=>simp [intOf];omega
    ·obtain rfl:m=S.size:=by omega
     have hlz:¬ (S.size:Int)<(S.size:Int):=by omega
     go_wp2_with fail
     go_roundw
     case rel=>exact ⟨k+1,by omega,by go_num,trivial,zH (fun q x hq hx=>by
      by_cases e:q<k
      ·exact HK.out q x e hx
      ·obtain rfl:q=k:=by omega
       rw [HL.out] at hx
       injection hx with hx
       subst hx
       cases hc:s.contains 10 with
       | false=>rfl
       | true=>
        obtain ⟨p,h1,h2⟩:=first_ten hc
        have hp:p<s.length:=(List.getElem?_eq_some_iff.1 h1).1
        exact absurd rfl (HM.out p 10 (by rw [HSS.out];exact hp) h1))⟩
     case measure=>simp [intOf];omega
  ·obtain rfl:k=l.length:=by omega
   have hbrk:brk l=none:=brk_all' fun s hs=>by
    obtain ⟨j,hj⟩:=List.mem_iff_getElem?.1 hs
    exact HK.out j s (List.getElem?_eq_some_iff.1 hj).1 hj
   have HBR:=zH hbrk;clear hbrk
   go_wp2_with (refine wpList_store_whole rfl 31 _ _ rfl q0 [zI zi 0,zI zi 0] rfl rfl H0.out.bl rfl (by kernel_rfl) (by simp [Ones,Value.oneCell']) ?_;intro w5 h1' h2' h3';have H5:=zH (H0.out.grown h2' h1');have Q5:=zH (Q0.out.trans (Quiet.grown h2'));clear h1' h2' h3')
   have hl:=run_load_part (P:=Tryz.prog) (off:=0) (ty:=31) (vs:=[zI zi 0,zI zi 0]) H5.out.bl rfl Tryz.underlying31 rfl (by kernel_rfl)
   exact bodyPost_ret (results_cell1 rfl rfl hl) rfl ⟨_,_,rfl,Q5.out,H5.out.right,fun _=>⟨rfl,rfl⟩,fun i e=>by rw [HBR.out] at e;cases e⟩
end Go.Proofs.YtfihmpkkpgmdhaaGreatDoor
