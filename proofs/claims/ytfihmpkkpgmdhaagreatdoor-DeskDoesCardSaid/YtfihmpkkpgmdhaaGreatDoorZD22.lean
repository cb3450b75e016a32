/-
  What the proof of DeskDoes leans on: definitions, laws, contracts of functions. No condition besides those that each theorem names.
-/
import Derived.Test.YtfihmpkkpgmdhaaGreatDoorZD19
import Derived.Test.YtfihmpkkpgmdhaaGreatDoorZD04
import Derived.Test.YtfihmpkkpgmdhaaGreatDoorZD21
set_option maxRecDepth 100000
set_option maxHeartbeats 16000000
set_option linter.unusedVariables false
set_option linter.unusedSimpArgs false
set_option linter.unnecessarySimpa false
namespace Go.Proofs.YtfihmpkkpgmdhaaGreatDoor
open Go.RowKit
open List renaming setIfInBounds_toArray → zA, set_cons_zero → zB, set_cons_succ → zC
open Go.Act renaming put → zP
open Go.Lib renaming hid → zH
open Go.Value renaming int → zI
open Go.IntKind renaming i64 → zi
def svls (l:List (List UInt8)):List Value:=l.map fun x=>.string (strOf x)
theorem svls_get {l:List (List UInt8)} {i:Nat} {x:List UInt8} (h:l[i]? = some x):(svls l)[i]? = some (.string (strOf x)):=by simp [svls,h]
theorem join_sl (v:Value) (l:List (List UInt8)) (w:World) (hv:RowAt w v l.length (svls l)) (h0:l.length≠0) (hs:(Lib.join l [32]).length≤1000000000) (hn:l.length≤1000000) :
  Calls Tryz.prog 57 #[v,.string ⟨#[32]⟩] w fun e w'=>e=.returned (.string (strOf (Lib.join l [32])))∧Below w.heap.size w w':=by
 obtain ⟨g,off,c,rfl,h1,h2,h3⟩:=hv.get h0
 have hx:(l.map strOf).map (·.data.toList)=l:=by
  rw [List.map_map]
  conv=>rhs;rw [←List.map_id l]
  exact List.map_congr_left fun x _=>strOf_data x
 have hl:(l.map strOf).length=l.length:=List.length_map ..
 have hd:(⟨#[32]⟩:ByteArray).data.toList=[32]:=rfl
 have hg:g<w.heap.size:=by
  obtain ⟨x,hx⟩:∃ x,l[0]? = some x:=⟨_,List.getElem?_eq_getElem (by omega)⟩
  exact block_lt_of_cell (h3 0 _ (svls_get hx))
 have:=Tryz.strings_Join g off c (l.map strOf) ⟨#[32]⟩ w (fun j x hj=>by
  obtain ⟨y,hy,rfl⟩:∃ y,l[j]? = some y∧strOf y=x:=by simpa using hj
  exact h3 j _ (svls_get hy)) hg (by omega) (by omega) (by rw [hx,hd];omega)
 rw [hx,hd,hl] at this
 exact this
theorem svls_row {w:World} {l:List (List UInt8)} {g:Nat} (hg:w.heap.size=g) (hl:l.length≤1000) (cs:Array Value) (hc:cs=(svls l).toArray) (ty:TypeId):RowAt (w.alloc (.cells cs ty)) (.slice (some ⟨g,0,none⟩) l.length l.length) l.length (svls l):=by
 subst hc;subst hg
 refine ⟨_,_,rfl,Nat.le_refl _,by simp only [maxLen];omega,by simp,fun _=>⟨_,_,rfl,fun j u hj=>?_⟩⟩
 rw [Nat.zero_add,World.cell?_alloc_mark]
 simpa using hj
theorem run_add_str (w:World) (a b:List UInt8) (h:a.length+b.length≤4611686018427387904):(binOp .add 9 (.string (strOf a)) (.string (strOf b))).run Tryz.prog w=.ok (.string (strOf (a++b))) w:=by
 have h1:=strOf_size a
 have h2:=strOf_size b
 have h3:=strOf_append a b
 have hu:∀ w,(underlying 9).run Tryz.prog w=.ok .string w:=run_underlying Tryz.underlying9
 have hn:¬ (9223372036854775807:Int)<((strOf a).size:Int)+((strOf b).size:Int):=by omega
 simp [binOp,Op.stringOp,h3,h1,h2]
 omega
theorem exec_add_str {o:Oper} {a:Act} {w:World} {l m:List UInt8} (x y:Operand) (ho:o.op=.binOp .add 9 x y 9) (hx:a.eval x=.string (strOf l)) (hy:a.eval y=.string (strOf m)) (h:l.length+m.length≤4611686018427387904) :
  (execOp a.eval o).run Tryz.prog w=.ok (.value (.string (strOf (l++m)))) w:=by
 unfold execOp
 simp only [ho,hx,hy,eqGuard,Sem.run_bind,run_add_str w l m h,Result.andThen_ok,Sem.run_pure,ite_self]
theorem say_sl (b bg:Nat) (told:List UInt8) (v:Value) (l:List (List UInt8)) (w:World) {R:HP} (h:Holds w (kst b bg told*R)) (hv:RowAt w v l.length (svls l)) (h0:l.length≠0) (hn:l.length≤1000000)
  (ht:told.length≤500000000) (hs:(Lib.join l [32]).length≤1000000) :
  Calls Tryz.prog 28 #[.pointer (some ⟨b,0,none⟩),v] w fun e w'=>e=.returned (.tuple #[])∧Quiet w w'∧Holds w' (kst b bg (told++line (Lib.join l [32]))*R):=by
 have H:=zH h
 have hj:=join_sl v l w.drew hv h0 (by omega) hn
 obtain ⟨J,hJ⟩:∃ J,Lib.join l [32]=J:=⟨_,rfl⟩
 rw [hJ] at hj hs ⊢
 have HJ:=zH hj
 have hsz:=strOf_size J
 clear h hj hJ hv h0 hn
 go_enter Tryz.func28,Tryz.ntmps28
 go_wp2_with fail
 refine wp_region_lex (fun _=>True) [4,6] (by kernel_rfl) (by kernel_rfl) trivial ?_
 repeat (first|(refine LexL.none (by rfl) ?_;(try simp only [zP,zA,zB,zC]))|(refine LexL.still (v:=?_) (by rfl) ?_ ?_;rotate_left;(focus (intro W hW;(try dsimp only at hW);go_simp;(try (with_reducible rfl));done));(try simp only [zP,zA,zB,zC])))
 refine LexL.call (f:=57) (args:=#[v,.string ⟨#[32]⟩]) (w1:=w.drew) (by rfl) (by decide) (by go_simp) ?_
 refine HJ.out.mono ?_
 rintro e w1 ⟨rfl,hb⟩
 refine ⟨_,rfl,trivial,?_⟩
 try simp only [zP,zA,zB,zC]
 repeat (first|(refine LexL.none (by rfl) ?_;(try simp only [zP,zA,zB,zC]))|(refine LexL.still (v:=?_) (by rfl) ?_ ?_;rotate_left;(focus (intro W hW;(try dsimp only at hW);go_simp;(try (with_reducible rfl));done));(try simp only [zP,zA,zB,zC])))
 refine LexL.still (v:=.string (strOf (line J))) (by rfl) (fun W _=>exec_add_str (l:=J) (m:=[10]) (.tmp 8) (.const (.string ⟨#[10]⟩)) rfl rfl rfl (by simp;omega)) ?_
 try simp only [zP,zA,zB,zC]
 refine LexL.call (f:=56) (args:=#[.pointer (some ⟨b,0,none⟩),.string (strOf (line J))]) (w1:=w1) (by rfl) (by decide) (by go_simp) ?_
 refine (write_sl b bg told (line J) w1 (H.out.drew.below hb) (by rw [line_len];omega)).mono ?_
 rintro e w2 ⟨rfl,q2,h2⟩
 refine ⟨_,rfl,trivial,?_⟩
 try simp only [zP,zA,zB,zC]
 refine LexL.done ?_
 have H2:=zH h2;have Q2:=zH q2;clear h2 q2
 go_wp2
 go_end0
 exact ⟨rfl,((Quiet.refl _).drew.trans (Quiet.below hb)).trans Q2.out,H2.out⟩
theorem join_one' (x:List UInt8):Lib.join [x] [32]=x:=Lib.join_one x [32]
theorem join_two (x y:List UInt8):Lib.join [x,y] [32]=x++32::y:=by rw [Lib.join_cons];simp [Lib.joinTail]
theorem sm_i64 {n:Int} (h:Sm n):I64' n:=h.big
theorem answer_sl (b bg:Nat) (told:List UInt8) (a:Ans) (take:Bool) (w:World) {w0:World} {R:HP} (h:Holds w (kst b bg told*(lay w0*R))) (ha:a.Sm) (ht:told.length≤400000000) :
  Calls Tryz.prog 43 #[.pointer (some ⟨b,0,none⟩),.agg #[zI zi a.code,zI zi a.job,zI zi a.tr],.bool take] w fun e w'=>e=.returned (.tuple #[])∧Quiet w w'∧Holds w' (kst b bg (told++line (ansTxt a take))*(lay w0*R)):=by
 obtain ⟨c,j,t⟩:=a
 have hc:=sm_i64 ha.code
 have hj:∀ n∈[j,t],I64' n:=fun n hn=>by
  simp only [List.mem_cons,List.mem_nil_iff,or_false] at hn
  rcases hn with rfl|rfl
  ·exact sm_i64 ha.job
  ·exact sm_i64 ha.tr
 have HC:=zH hc;have HJ:=zH hj
 have hl1:=Lib.itoa_length_le c hc.1 hc.2
 have hl2:=nums_le hj
 have H0:=zH (h.alloc (.cells #[zI zi c,zI zi j,zI zi t] 88))
 clear h ha hc hj
 by_cases h0:c=0
 ·subst h0
  clear HC hl1
  cases take with
  | false=>
   go_enter Tryz.func43,Tryz.ntmps43
   go_wp2_with (go_at_call 28;refine (say_sl b bg told _ [tOk] _ (H0.out.alloc _) (svls_row (by simp) (by simp) _ rfl _) (by simp) (by simp) (by omega) (by rw [join_one'];simp [tOk])).mono ?_;rintro e w1 ⟨rfl,q1,h1⟩)
   rw [join_one'] at h1
   go_end0
   exact ⟨rfl,(((Quiet.refl _).alloc _).alloc _).trans q1,h1⟩
  | true=>
   go_enter Tryz.func43,Tryz.ntmps43
   go_wp2_with fail
   refine (nums_sl _ [j,t] _ ((lay_laid H0.out.two).alloc _) (ivs_row (by simp) (by simp) _ rfl _) (by simp) HJ.out).mono ?_
   rintro e w1 ⟨rfl,hb1⟩
   have h1:=(H0.out.alloc (.cells #[zI zi j,zI zi t] 3)).below hb1
   have H1:=zH h1;have B1:=zH hb1;clear h1 hb1
   have hsz:(strOf (nums [j,t])).size≤44:=by rw [strOf_size];simpa using hl2
   have hl3:(nums [j,t]).length≤44:=by simpa using hl2
   obtain ⟨N,hN⟩:∃ N,nums [j,t]=N:=⟨_,rfl⟩
   rw [hN] at hsz hl3 ⊢
   have HN:=zH hN;clear hN hl2
   go_wp2_with (go_at_call 28;refine (say_sl b bg told _ [tOk++N] _ (H1.out.alloc _) (svls_row (by simp) (by simp) _ (by simp only [svls,List.map_cons,List.map_nil,←strOf_append];rfl) _) (by simp) (by simp) (by omega) (by rw [join_one'];simp [tOk];omega)).mono ?_;rintro e w2 ⟨rfl,q2,h2⟩)
   rw [join_one',←HN.out] at h2
   go_end0
   exact ⟨rfl,((((Quiet.refl _).alloc _).alloc _).trans (Quiet.below B1.out)).trans (((Quiet.refl _).alloc _).trans q2),h2⟩
 ·have e:∀ x:Bool,ansTxt ⟨c,j,t⟩ x=tNo++32::Lib.itoa c:=fun x=>by simp [ansTxt,h0,nums]
  rw [e]
  clear e HJ hl2
  go_enter Tryz.func43,Tryz.ntmps43
  go_wp2_with fail
  refine (num_sl c _ (lay_laid H0.out.two) HC.out).mono ?_
  rintro e w1 ⟨rfl,hb1⟩
  have h1:=H0.out.below hb1
  have H1:=zH h1;have B1:=zH hb1;clear h1 hb1
  obtain ⟨N,hN⟩:∃ N,Lib.itoa c=N:=⟨_,rfl⟩
  rw [hN] at hl1 ⊢
  have HN:=zH hN;clear hN
  go_wp2_with (go_at_call 28;refine (say_sl b bg told _ [tNo,N] _ (H1.out.alloc _) (svls_row (by simp) (by simp) _ rfl _) (by simp) (by simp) (by omega) (by rw [join_two];simp [tNo];omega)).mono ?_;rintro e w2 ⟨rfl,q2,h2⟩)
  rw [join_two,←HN.out] at h2
  go_end0
  exact ⟨rfl,(((Quiet.refl _).alloc _).trans (Quiet.below B1.out)).trans (((Quiet.refl _).alloc _).trans q2),h2⟩
theorem below_bytes (w:World) (e:TypeId) (s:ByteArray):Below w.heap.size w (Lib.bytesWorld w e s):=
 ⟨by simp [Lib.bytesWorld,World.freeze,World.alloc,World.drew,-World.alloc_eq,-World.drew_eq],by simp [Lib.bytesWorld,World.freeze,World.alloc,World.drew,-World.alloc_eq,-World.drew_eq],by simp [Lib.bytesWorld,World.freeze,World.alloc,World.drew,-World.alloc_eq,-World.drew_eq],by rw [Lib.bytesWorld_size];omega,fun k hk=>Lib.bytesWorld_at_old w e s k hk⟩
theorem atoi_ok (s:List UInt8) (v:Int) (w:World) (hs:s.length≤1000000) (h:Lib.atoiAll s=.ok v):Calls Tryz.prog 31 #[.string (strOf s)] w fun e w'=>e=.returned (.tuple #[zI zi v,.nilIface])∧Below w.heap.size w w':=by
 refine (Tryz.strconv_Atoi_ok (strOf s) (by rw [strOf_size];omega) v (by rw [strOf_data];exact h) w).mono ?_
 rintro e w' ⟨rfl,rfl|⟨t,rfl⟩⟩
 ·exact ⟨rfl,Below.refl _ _⟩
 ·exact ⟨rfl,below_bytes _ _ _⟩
theorem atoi_bad (s:List UInt8) (w:World) (hl:Laid w) (hs:s.length≤1000000) (h:∀ v,Lib.atoiAll s≠.ok v):Calls Tryz.prog 31 #[.string (strOf s)] w fun e w'=>∃ (v:Int) (t:TypeId) (p:Value),e=.returned (.tuple #[zI zi v,.iface t p])∧Below w.heap.size w w':=by
 obtain ⟨-,⟨t1,p1,h1⟩,⟨t2,p2,h2⟩,-⟩:=hl
 by_cases hc:Lib.atoiAll s=.range
 ·refine (Tryz.strconv_Atoi_range_var (strOf s) (by rw [strOf_size];omega) (by rw [strOf_data];exact hc) t2 p2 w h2).mono ?_
  rintro e w' ⟨N,rfl,-,-,hb⟩
  exact ⟨_,_,_,rfl,hb⟩
 ·refine (Tryz.strconv_Atoi_bad_var (strOf s) (by rw [strOf_size];omega) (by rw [strOf_data];exact h) (by rw [strOf_data];exact hc) t1 p1 w h1).mono ?_
  rintro e w' ⟨N,rfl,-,-,hb⟩
  exact ⟨_,_,_,rfl,hb⟩
theorem numOf_cases (s:List UInt8):(∃ v,Lib.atoiAll s=.ok v∧Lib.itoa v=s∧numOf s=some v)∨(∃ v,Lib.atoiAll s=.ok v∧Lib.itoa v≠s∧numOf s=none)∨((∀ v,Lib.atoiAll s≠.ok v)∧numOf s=none):=by
 unfold numOf
 cases h:Lib.atoiAll s with
 | ok v=>
  by_cases hv:Lib.itoa v=s
  ·exact .inl ⟨v,rfl,hv,by simp [hv]⟩
  ·exact .inr (.inl ⟨v,rfl,hv,by simp [hv]⟩)
 | _=>exact .inr (.inr ⟨fun v e=>(by cases e),rfl⟩)
theorem numsOf_at:∀ {l:List (List UInt8)} {r:List Int} {k:Nat} {s:List UInt8},numsOf l=some r→l[k]? = some s→∃ v,r[k]? = some v∧numOf s=some v
 | [],_,_,_,_,h=>by simp at h
 | a::l,r,k,s,h,hk=>by
  unfold numsOf at h
  split at h
  ·rename_i x y h1 h2
   injection h with h
   subst h
   cases k with
   | zero=>simp at hk;subst hk;exact ⟨x,rfl,h1⟩
   | succ k=>
    obtain ⟨v,hv1,hv2⟩:=numsOf_at (k:=k) h2 (by simpa using hk)
    exact ⟨v,by simpa using hv1,hv2⟩
  ·cases h
def inum (v:Value) (l:List Int):HP:=rw_ 3 1 v l.length (ivs l)
theorem ivs_take (r:List Int) (k:Nat) (v:Int) (h:r[k]? = some v):ivs (r.take k)++[zI zi v]=ivs (r.take (k+1)):=by
 rw [List.take_add_one,h]
 simp [ivs]
theorem ivs_append (a b:List Int):ivs (a++b)=ivs a++ivs b:=List.map_append
theorem numsOf_none:∀ {l:List (List UInt8)},numsOf l=none→∃ (m:Nat) (s:List UInt8),l[m]? = some s∧numOf s=none∧∀ j,j<m→∀ x,l[j]? = some x→∃ v,numOf x=some v
 | [],h=>by cases h
 | a::l,h=>by
  cases ha:numOf a with
  | none=>exact ⟨0,a,rfl,ha,fun j hj=>by omega⟩
  | some v=>
   have hl:numsOf l=none:=by
    cases hl:numsOf l with
    | none=>rfl
    | some r=>unfold numsOf at h;rw [ha,hl] at h;cases h
   obtain ⟨m,s,h1,h2,h3⟩:=numsOf_none hl
   refine ⟨m+1,s,by simpa using h1,h2,fun j hj x hx=>?_⟩
   cases j with
   | zero=>simp at hx;subst hx;exact ⟨v,ha⟩
   | succ j=>exact h3 j (by omega) x (by simpa using hx)
theorem numbers_ok (v:Value) (l:List (List UInt8)) (r:List Int) (w:World) (hl:Laid w) (hv:RowAt w v l.length (svls l)) (hn:l.length≤100000) (hs:∀ x∈l,x.length≤100000) (hr:numsOf l=some r) :
  Calls Tryz.prog 25 #[v] w (PostX w (old w) (fun v=>.tuple #[v,.bool true]) fun v=>inum v r):=by
 obtain ⟨a,c,rfl,c1,c2⟩:=hv.shape
 have HV:=zH hv;have HL:=zH hl;have HS:=zH hs;have HR:=zH hr;have HRL:=zH (numsOf_len hr)
 obtain ⟨i0,hi,hz0,hz1,hz2⟩:=info_parts Tryz.infoI64
 have HI:=zH hi;have HZ0:=zH hz0;have HZ1:=zH hz1;have HZ2:=zH hz2
 clear hv hl hs hr hi hz0 hz1 hz2
 go_enter Tryz.func25,Tryz.ntmps25
 go_wp2
 go_loopw [4,11] (fun s i wr=>∃ k:Nat,k≤l.length∧i=zI zi k∧Holds wr (rw_ 3 1 s k (ivs (r.take k))*old w)∧Quiet w wr) (fun _ i _=>l.length-(intOf i).toNat)
 case atStart=>exact ⟨0,by omega,rfl,Holds.old.nilRow _ _,Quiet.refl _⟩
 case round=>
  obtain ⟨k,hk,rfl,hh,hq⟩:=hrel
  by_cases hlt:k<l.length
  ·obtain ⟨x,hx⟩:∃ x,l[k]? = some x:=⟨_,List.getElem?_eq_getElem hlt⟩
   obtain ⟨n,hn1,hn2⟩:=numsOf_at HR.out hx
   have hxl:=HS.out x (List.mem_of_getElem? hx)
   have hnb:=numOf_bound hn2
   rcases numOf_cases x with ⟨n',ha,rfl,hb⟩|⟨_,_,_,hb⟩|⟨_,hb⟩
   rotate_left
   ·rw [hb] at hn2;cases hn2
   ·rw [hb] at hn2;cases hn2
   obtain rfl:n'=n:=Option.some.inj (hb.symm.trans hn2)
   obtain ⟨g,off,cx,e,-,-,hc⟩:=(HV.out.old hh).get (by omega)
   simp only [Value.slice.injEq] at e
   obtain ⟨rfl,-,rfl⟩:=e
   have a1:wr.cell? ⟨g,off+k,none⟩=some (.string (strOf (Lib.itoa n'))):=hc k _ (svls_get hx)
   have hla:Laid wr:=HL.out.to hh.right.block
   obtain ⟨sa,sc,rfl,-,-⟩:=hh.row.shape
   have hst:=ivs_take r k n' hn1
   have HH:=zH hh;have HQ:=zH hq;have HLA:=zH hla;have HST:=zH hst;have HA:=zH ha;have HX:=zH hxl
   clear hh hq hla hc hst ha hx hn1 hn2 hb hxl
   obtain ⟨wo,rfl⟩:∃ wo:World,wo=wr:=⟨_,rfl⟩
   go_wp2_with fail
   refine (atoi_ok _ n' _ (by have:=HX.out;omega) HA.out).mono ?_
   rintro e w1 ⟨rfl,b1⟩
   have B1:=zH b1;clear b1
   go_wp2_with fail
   refine (num_sl n' _ (HLA.out.below B1.out) hnb).mono ?_
   rintro e w2 ⟨rfl,b2⟩
   have B2:=zH (B1.out.trans (b2.mono B1.out.size));clear b2 B1
   have H2:=zH ((HH.out.below B2.out).alloc (.cells #[zI zi n'] 3))
   go_wp2_with (at_builtin;refine wpList_append_sl (n:=k) (m:=1) rfl _ _ 70 rfl 3 i0 _ 1 8 Tryz.underlying70 HI.out HZ0.out HZ1.out HZ2.out rfl (by decide) rfl rfl H2.out (ivs_row (l:=[n']) rfl (by simp) _ rfl _) rfl (ivs_ones [n']) (by omega) (by omega) ?_;intro v' w3 h3 q3;have H3:=zH h3;have Q3:=zH q3;clear h3 q3)
   go_roundw
   case rel=>exact ⟨k+1,by omega,by go_num,by rw [←HST.out];exact H3.out,(HQ.out.trans (Quiet.below B2.out)).trans (((Quiet.refl _).alloc _).trans Q3.out)⟩
   case measure=>simp [intOf];omega
  ·obtain rfl:k=l.length:=by omega
   have e:r.take l.length=r:=List.take_of_length_le (by rw [HRL.out];omega)
   rw [e,←HRL.out] at hh
   go_wp2
   go_ret2
   exact ⟨_,rfl,hq,hh⟩
theorem numbers_bad (v:Value) (l:List (List UInt8)) (w:World) (hl:Laid w) (hv:RowAt w v l.length (svls l)) (hn:l.length≤100000) (hs:∀ x∈l,x.length≤100000) (hr:numsOf l=none) :
  Calls Tryz.prog 25 #[v] w (PostN w (old w) (.tuple #[.slice none 0 0,.bool false])):=by
 obtain ⟨a,c,rfl,c1,c2⟩:=hv.shape
 obtain ⟨m,y,hy,hym,hyb⟩:=numsOf_none hr
 have hml:m<l.length:=(List.getElem?_eq_some_iff.1 hy).1
 have HV:=zH hv;have HL:=zH hl;have HS:=zH hs;have HY:=zH hy;have HYM:=zH hym;have HYB:=zH hyb
 obtain ⟨i0,hi,hz0,hz1,hz2⟩:=info_parts Tryz.infoI64
 have HI:=zH hi;have HZ0:=zH hz0;have HZ1:=zH hz1;have HZ2:=zH hz2
 clear hv hl hs hr hy hym hyb hi hz0 hz1 hz2
 go_enter Tryz.func25,Tryz.ntmps25
 go_wp2
 go_loopw [4,11] (fun s i wr=>∃ (k:Nat) (d:List Int),k≤m∧i=zI zi k∧Holds wr (rw_ 3 1 s k (ivs d)*old w)∧Quiet w wr) (fun _ i _=>l.length-(intOf i).toNat)
 case atStart=>exact ⟨0,[],by omega,rfl,Holds.old.nilRow _ _,Quiet.refl _⟩
 case round=>
  obtain ⟨k,d,hk,rfl,hh,hq⟩:=hrel
  obtain ⟨g,off,cx,e,-,-,hc⟩:=(HV.out.old hh).get (by omega)
  simp only [Value.slice.injEq] at e
  obtain ⟨rfl,-,rfl⟩:=e
  have hla:Laid wr:=HL.out.to hh.right.block
  obtain ⟨sa,sc,rfl,-,-⟩:=hh.row.shape
  obtain ⟨wo,rfl⟩:∃ wo:World,wo=wr:=⟨_,rfl⟩
  have HH:=zH hh;have HQ:=zH hq;have HLA:=zH hla
  clear hh hq hla
  by_cases hlt:k<m
  ·obtain ⟨x,hx⟩:∃ x,l[k]? = some x:=⟨_,List.getElem?_eq_getElem (by omega)⟩
   obtain ⟨n,hn2⟩:=HYB.out k hlt x hx
   have hxl:=HS.out x (List.mem_of_getElem? hx)
   have hnb:=numOf_bound hn2
   rcases numOf_cases x with ⟨n',ha,rfl,hb⟩|⟨_,_,_,hb⟩|⟨_,hb⟩
   rotate_left
   ·rw [hb] at hn2;cases hn2
   ·rw [hb] at hn2;cases hn2
   obtain rfl:n'=n:=Option.some.inj (hb.symm.trans hn2)
   have a1:wo.cell? ⟨g,off+k,none⟩=some (.string (strOf (Lib.itoa n'))):=hc k _ (svls_get hx)
   have HA:=zH ha;have HX:=zH hxl
   clear hc ha hx hn2 hb hxl
   go_wp2_with fail
   refine (atoi_ok _ n' _ (by have:=HX.out;omega) HA.out).mono ?_
   rintro e w1 ⟨rfl,b1⟩
   have B1:=zH b1;clear b1
   go_wp2_with fail
   refine (num_sl n' _ (HLA.out.below B1.out) hnb).mono ?_
   rintro e w2 ⟨rfl,b2⟩
   have B2:=zH (B1.out.trans (b2.mono B1.out.size));clear b2 B1
   have H2:=zH ((HH.out.below B2.out).alloc (.cells #[zI zi n'] 3))
   go_wp2_with (at_builtin;refine wpList_append_sl (n:=k) (m:=1) rfl _ _ 70 rfl 3 i0 _ 1 8 Tryz.underlying70 HI.out HZ0.out HZ1.out HZ2.out rfl (by decide) rfl rfl H2.out (ivs_row (l:=[n']) rfl (by simp) _ rfl _) rfl (ivs_ones [n']) (by omega) (by omega) ?_;intro v' w3 h3 q3;have H3:=zH h3;have Q3:=zH q3;clear h3 q3)
   go_roundw
   case rel=>exact ⟨k+1,d++[n'],by omega,by go_num,by rw [ivs_append];exact H3.out,(HQ.out.trans (Quiet.below B2.out)).trans (((Quiet.refl _).alloc _).trans Q3.out)⟩
   case measure=>simp [intOf];omega
  ·obtain rfl:k=m:=by omega
   have hxl:=HS.out y (List.mem_of_getElem? HY.out)
   have a1:wo.cell? ⟨g,off+k,none⟩=some (.string (strOf y)):=hc k _ (svls_get HY.out)
   rcases numOf_cases y with ⟨n',_,_,hb⟩|⟨n',ha,hne,hb⟩|⟨hno,hb⟩
   ·rw [hb] at HYM;cases HYM.out
   ·have hnb:=atoi_bound ha
    have HA:=zH ha
    have hne2:((strOf (Lib.itoa n')).toList==(strOf y).toList)=false:=by
     rw [beq_eq_false_iff_ne]
     intro e
     apply hne
     rw [ByteArray.toList_eq,ByteArray.toList_eq,strOf_data,strOf_data] at e
     exact e
    clear hc ha hb hne
    go_wp2_with fail
    refine (atoi_ok _ n' _ (by omega) HA.out).mono ?_
    rintro e w1 ⟨rfl,b1⟩
    have B1:=zH b1;clear b1
    go_wp2_with fail
    refine (num_sl n' _ (HLA.out.below B1.out) hnb).mono ?_
    rintro e w2 ⟨rfl,b2⟩
    have B2:=zH (B1.out.trans (b2.mono B1.out.size));clear b2 B1
    go_wp2
    go_ret2
    exact ⟨rfl,HQ.out.trans (Quiet.below B2.out),HH.out.right.below B2.out⟩
   ·have HNO:=zH hno
    clear hc hno hb
    go_wp2_with fail
    refine (atoi_bad _ _ HLA.out (by omega) HNO.out).mono ?_
    rintro e w1 ⟨n',ty,p,rfl,b1⟩
    have B1:=zH b1;clear b1
    go_wp2
    go_ret2
    exact ⟨rfl,HQ.out.trans (Quiet.below B1.out),HH.out.right.below B1.out⟩
theorem numbers_sl (v:Value) (l:List (List UInt8)) (r:List Int) (w:World) {w0:World} {R:HP} (h:Holds w (lay w0*R)) (hv:RowAt w v l.length (svls l)) (hn:l.length≤100000) (hs:∀ x∈l,x.length≤100000) (hr:numsOf l=some r) :
  Calls Tryz.prog 25 #[v] w (PostX w (lay w0*R) (fun v=>.tuple #[v,.bool true]) fun v=>inum v r):=
 (numbers_ok v l r w (lay_laid h) hv hn hs hr).mono fun e w' ⟨x,he,hq,hh⟩=>⟨x,he,hq,hh.frame h⟩
theorem numbers_no (v:Value) (l:List (List UInt8)) (w:World) {w0:World} {R:HP} (h:Holds w (lay w0*R)) (hv:RowAt w v l.length (svls l)) (hn:l.length≤100000) (hs:∀ x∈l,x.length≤100000) (hr:numsOf l=none) :
  Calls Tryz.prog 25 #[v] w (PostN w (lay w0*R) (.tuple #[.slice none 0 0,.bool false])):=
 (numbers_bad v l w (lay_laid h) hv hn hs hr).mono fun e w' ⟨he,hq,hh⟩=>⟨he,hq,hh.frame0 h⟩
end Go.Proofs.YtfihmpkkpgmdhaaGreatDoor
