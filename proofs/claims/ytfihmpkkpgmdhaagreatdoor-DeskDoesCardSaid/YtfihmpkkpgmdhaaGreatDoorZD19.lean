/-
  What the proof of DeskDoes leans on: definitions, laws, contracts of functions. No condition besides those that each theorem names.
-/
import Derived.Test.YtfihmpkkpgmdhaaGreatDoorZD00
import Derived.Test.YtfihmpkkpgmdhaaGreatDoorZD13
import Derived.Test.YtfihmpkkpgmdhaaGreatDoorZD14
import Derived.Test.YtfihmpkkpgmdhaaGreatDoorZD16
import Derived.Test.YtfihmpkkpgmdhaaGreatDoorZD18
import Derived.Shelf.GgClosure.Gives
import Derived.Lib.Builder
import Derived.Lib.AppendStr
import Derived.Lib.UnsafeStr
import Derived.Laws.Externs
set_option maxRecDepth 100000
set_option maxHeartbeats 16000000
set_option linter.unusedVariables false
set_option linter.unusedSimpArgs false
set_option linter.unnecessarySimpa false
namespace Go.Proofs.YtfihmpkkpgmdhaaGreatDoor
open Go.RowKit
open Go.Lib renaming hid → zH
open Go.Value renaming int → zI
open Go.IntKind renaming i64 → zi
theorem var_to {P:Program} {w w':World} {n:String} {cs:Array Value} (hb:∀ k,k<w.heap.size→w'.heap[k]? = w.heap[k]?) (h:w.var? P n=some cs):w'.var? P n=some cs:=by
 unfold World.var? at *
 cases hg:P.globalNamed n with
 | none=>rw [hg] at h;cases h
 | some g=>
  rw [hg] at h
  simp only [Option.bind] at h ⊢
  have hlt:g<w.heap.size:=by
   rcases Nat.lt_or_ge g w.heap.size with h'|h'
   ·exact h'
   ·rw [Array.getElem?_eq_none h'] at h;cases h
  rw [hb g hlt]
  exact h
structure Laid (w:World):Prop where
 pow:Lib.TabIs Tryz.prog w "internal/strconv.uint64pow10" .u64 Lib.pow10Tab
 syn:∃ (t:TypeId) (p:Value),w.var? Tryz.prog "strconv.ErrSyntax" = some #[.iface t p]
 rng:∃ (t:TypeId) (p:Value),w.var? Tryz.prog "strconv.ErrRange" = some #[.iface t p]
 max:∃ m:Int,w.cell? ⟨0,0,none⟩=some (zI zi m)
theorem Laid.to {w w':World} (h:Laid w) (hb:∀ k,k<w.heap.size→w'.heap[k]? = w.heap[k]?):Laid w':=by
 obtain ⟨h1,⟨t2,p2,h2⟩,⟨t3,p3,h3⟩,m,h4⟩:=h
 refine ⟨var_to hb h1,⟨t2,p2,var_to hb h2⟩,⟨t3,p3,var_to hb h3⟩,m,?_⟩
 rw [World.cell?_of_block (hb 0 (block_lt_of_cell h4))]
 exact h4
theorem Laid.below {w w':World} (h:Laid w) (hb:Below w.heap.size w w'):Laid w':=h.to hb.block
theorem Laid.alloc {w:World} (h:Laid w) (o:Obj):Laid (w.alloc o):=h.to fun k hk=>Below.heap_alloc w o k hk
theorem Laid.drew {w:World} (h:Laid w):Laid w.drew:=h.to fun _ _=>rfl
def lay (w0:World):HP:=HP.wi (Laid w0) (old w0)
theorem lay_laid {w w0:World} {R:HP} (h:Holds w (lay w0*R)):Laid w:=by
 obtain ⟨h1,h2⟩:=wi_open h
 exact h1.to h2.left.block
theorem lay_of {w w0:World} {R:HP} (h:Holds w (lay w0*R)):Holds w (old w0*R):=(wi_open h).2
theorem lay_start {w:World} (h:Laid w):Holds w (lay w*HP.emp):=wi_close h ((emp_mul Holds.old).eq (HP.comm _ _))
theorem lay_row {w w0:World} {v:Value} {n:Nat} {cs:List Value} {R:HP} (h:RowAt w0 v n cs) (hh:Holds w (lay w0*R)):RowAt w v n cs:=h.to (lay_of hh).left.block
theorem strOf_append (a b:List UInt8):strOf a++strOf b=strOf (a++b):=by
 apply ByteArray.ext
 simp [strOf,ByteArray.data_append]
theorem strOf_size (l:List UInt8):(strOf l).size=l.length:=by simp [strOf,ByteArray.size]
theorem strOf_list (s:ByteArray):strOf s.data.toList=s:=by apply ByteArray.ext;simp [strOf]
theorem strOf_data (l:List UInt8):(strOf l).data.toList=l:=by simp [strOf]
theorem strOf_inj {a b:List UInt8} (h:strOf a=strOf b):a=b:=by rw [←strOf_data a,h,strOf_data]
theorem itoa_sl (n:Int) (w:World) (hl:Laid w) (h0:I64' n):Calls Tryz.prog 60 #[zI zi n] w fun e w'=>e=.returned (.string (strOf (Lib.itoa n)))∧Below w.heap.size w w':=
 (Tryz.strconv_Itoa n h0.1 h0.2 w hl.pow).mono fun e w' ⟨he,k,os,hw⟩=>⟨he,hw▸Go.Proofs.below_grown w k os⟩
theorem num_sl (n:Int) (w:World) (hl:Laid w) (h0:I64' n):Calls Tryz.prog 45 #[zI zi n] w fun e w'=>e=.returned (.string (strOf (Lib.itoa n)))∧Below w.heap.size w w':=by
 go_enter Tryz.func45,Tryz.ntmps45
 go_wp2_with (go_at_call 60;refine (itoa_sl n _ hl h0).mono ?_;rintro e w1 ⟨rfl,hb⟩)
 go_ret
 exact ⟨rfl,hb⟩
theorem rnum_sl (n:Int) (w:World) (hl:Laid w) (h0:I64' n):Calls Tryz.prog 32 #[zI zi n] w fun e w'=>e=.returned (.string (strOf (Lib.itoa n)))∧Below w.heap.size w w':=by
 go_enter Tryz.func32,Tryz.ntmps32
 go_wp2_with (go_at_call 60;refine (itoa_sl n _ hl h0).mono ?_;rintro e w1 ⟨rfl,hb⟩)
 go_ret
 exact ⟨rfl,hb⟩
theorem nums_take (l:List Int) (i:Nat) (n:Int) (h:l[i]? = some n):nums (l.take (i+1))=nums (l.take i)++(32::Lib.itoa n):=by
 rw [List.take_add_one,h,nums_append]
 simp [nums]
theorem nums_le {l:List Int} (h:∀ n∈l,I64' n):(nums l).length≤22*l.length:=by
 induction l with
 | nil=>exact Nat.le_refl _
 | cons n l ih=>
  have h1:=h n (List.mem_cons_self ..)
  have h2:=Lib.itoa_length_le n h1.1 h1.2
  have ih:=ih fun x hx=>h x (List.mem_cons_of_mem _ hx)
  rw [nums_cons,List.length_append,List.length_cons,List.length_cons]
  omega
theorem nums_sl (v:Value) (l:List Int) (w:World) (hl:Laid w) (hv:RowAt w v l.length (ivs l)) (hn:l.length≤100000) (hi:∀ n∈l,I64' n) :
  Calls Tryz.prog 50 #[v] w fun e w'=>e=.returned (.string (strOf (nums l)))∧Below w.heap.size w w':=by
 obtain ⟨a,c,rfl,c1,c2⟩:=hv.shape
 have HV:=zH hv;have HL:=zH hl;have HI:=zH hi
 clear hv hl hi
 go_enter Tryz.func50,Tryz.ntmps50
 go_wp2
 go_loopw [3,8] (fun s i wr=>∃ k:Nat,k≤l.length∧i=zI zi k∧s=.string (strOf (nums (l.take k)))∧Below w.heap.size w wr) (fun _ i _=>l.length-(intOf i).toNat)
 case atStart=>exact ⟨0,by omega,rfl,rfl,Below.refl _ _⟩
 case round=>
  obtain ⟨k,hk,rfl,rfl,hb⟩:=hrel
  by_cases hlt:k<l.length
  ·obtain ⟨x,hx⟩:∃ x,l[k]? = some x:=⟨_,List.getElem?_eq_getElem hlt⟩
   obtain ⟨g,off,cx,e,-,-,hc⟩:=HV.out.get (by omega)
   simp only [Value.slice.injEq] at e
   obtain ⟨rfl,-,rfl⟩:=e
   have a0:w.cell? ⟨g,off+k,none⟩=some (zI zi x):=hc k _ (by simp [ivs,hx])
   have a1:wr.cell? ⟨g,off+k,none⟩=some (zI zi x):=by rw [hb.cell (block_lt_of_cell a0)];exact a0
   clear hc a0
   have hx0:=HI.out x (List.mem_of_getElem? hx)
   have hle:(nums (l.take k)).length≤22*k:=by
    have:=nums_le (l:=l.take k) fun n hn=>HI.out n (List.mem_of_mem_take hn)
    rw [List.length_take] at this;omega
   have hlx:=Lib.itoa_length_le x hx0.1 hx0.2
   have hst:=nums_take l k x hx
   have HB:=zH hb;have HX:=zH hx;have HS:=zH hst;clear hx hst
   obtain ⟨S,hS⟩:∃ S,strOf (nums (l.take k))=S:=⟨_,rfl⟩
   have hSs:S.size≤22*k:=by rw [←hS,strOf_size];exact hle
   obtain ⟨T,hT⟩:∃ T,strOf (Lib.itoa x)=T:=⟨_,rfl⟩
   have hTs:T.size≤21:=by rw [←hT,strOf_size];exact hlx
   have hst2:strOf (nums (l.take (k+1)))=S++((⟨#[32]⟩:ByteArray)++T):=by
    rw [HS.out,←strOf_append,hS,←hT,show (⟨#[32]⟩:ByteArray)=strOf [32] from rfl,strOf_append];rfl
   have HS2:=zH hst2;clear hst2 hle hlx
   rw [hS]
   have HSd:=zH hS;clear hS
   obtain ⟨wo,rfl⟩:∃ wo:World,wo=wr:=⟨_,rfl⟩
   go_wp2_with (go_at_call 45;refine (num_sl x _ (HL.out.below HB.out) hx0).mono ?_;rw [hT];rintro e w1 ⟨rfl,hb1⟩)
   go_roundw
   case rel=>exact ⟨k+1,by omega,by go_num,by rw [HS2.out],HB.out.trans (hb1.mono HB.out.size)⟩
   case measure=>simp [intOf];omega
  ·obtain rfl:k=l.length:=by omega
   rw [List.take_length] at *
   go_wp2
   go_ret
   exact ⟨rfl,hb⟩
theorem rlist_sl (s0:List UInt8) (v:Value) (l:List Int) (w:World) (hs0:s0.length≤1000000000000) (hl:Laid w) (hv:RowAt w v l.length (ivs l)) (hn:l.length≤100000) (hi:∀ n∈l,I64' n) :
  Calls Tryz.prog 35 #[.string (strOf s0),v] w fun e w'=>e=.returned (.string (strOf (s0++nums l)))∧Below w.heap.size w w':=by
 obtain ⟨a,c,rfl,c1,c2⟩:=hv.shape
 have HV:=zH hv;have HL:=zH hl;have HI:=zH hi
 clear hv hl hi
 go_enter Tryz.func35,Tryz.ntmps35
 go_wp2
 go_loopw [0,5] (fun s i wr=>∃ k:Nat,k≤l.length∧i=zI zi k∧s=.string (strOf (s0++nums (l.take k)))∧Below w.heap.size w wr) (fun _ i _=>l.length-(intOf i).toNat)
 case atStart=>exact ⟨0,by omega,rfl,by simp [nums],Below.refl _ _⟩
 case round=>
  obtain ⟨k,hk,rfl,rfl,hb⟩:=hrel
  by_cases hlt:k<l.length
  ·obtain ⟨x,hx⟩:∃ x,l[k]? = some x:=⟨_,List.getElem?_eq_getElem hlt⟩
   obtain ⟨g,off,cx,e,-,-,hc⟩:=HV.out.get (by omega)
   simp only [Value.slice.injEq] at e
   obtain ⟨rfl,-,rfl⟩:=e
   have a0:w.cell? ⟨g,off+k,none⟩=some (zI zi x):=hc k _ (by simp [ivs,hx])
   have a1:wr.cell? ⟨g,off+k,none⟩=some (zI zi x):=by rw [hb.cell (block_lt_of_cell a0)];exact a0
   clear hc a0
   have hx0:=HI.out x (List.mem_of_getElem? hx)
   have hle:(nums (l.take k)).length≤22*k:=by
    have:=nums_le (l:=l.take k) fun n hn=>HI.out n (List.mem_of_mem_take hn)
    rw [List.length_take] at this;omega
   have hlx:=Lib.itoa_length_le x hx0.1 hx0.2
   have hst:=nums_take l k x hx
   have HB:=zH hb;have HX:=zH hx;have HS:=zH hst;clear hx hst
   obtain ⟨S,hS⟩:∃ S,strOf (s0++nums (l.take k))=S:=⟨_,rfl⟩
   have hSs:S.size≤1000000000000+22*k:=by rw [←hS,strOf_size,List.length_append];omega
   obtain ⟨T,hT⟩:∃ T,strOf (Lib.itoa x)=T:=⟨_,rfl⟩
   have hTs:T.size≤21:=by rw [←hT,strOf_size];exact hlx
   have hst2:strOf (s0++nums (l.take (k+1)))=S++((⟨#[32]⟩:ByteArray)++T):=by
    rw [HS.out,←List.append_assoc,←strOf_append,hS,←hT,show (⟨#[32]⟩:ByteArray)=strOf [32] from rfl,strOf_append];rfl
   have HS2:=zH hst2;clear hst2 hle hlx
   rw [hS]
   have HSd:=zH hS;clear hS
   obtain ⟨wo,rfl⟩:∃ wo:World,wo=wr:=⟨_,rfl⟩
   go_wp2_with (go_at_call 32;refine (rnum_sl x _ (HL.out.below HB.out) hx0).mono ?_;rw [hT];rintro e w1 ⟨rfl,hb1⟩)
   go_roundw
   case rel=>exact ⟨k+1,by omega,by go_num,by rw [HS2.out],HB.out.trans (hb1.mono HB.out.size)⟩
   case measure=>simp [intOf];omega
  ·obtain rfl:k=l.length:=by omega
   rw [List.take_length] at *
   go_wp2
   go_ret
   exact ⟨rfl,hb⟩
theorem ivs_row {w:World} {l:List Int} {g:Nat} (hg:w.heap.size=g) (hl:l.length≤1000) (cs:Array Value) (hc:cs=(ivs l).toArray) (ty:TypeId):RowAt (w.alloc (.cells cs ty)) (.slice (some ⟨g,0,none⟩) l.length l.length) l.length (ivs l):=by
 subst hc;subst hg
 refine ⟨_,_,rfl,Nat.le_refl _,by simp only [maxLen];omega,by simp,fun _=>⟨_,_,rfl,fun j u hj=>?_⟩⟩
 rw [Nat.zero_add,World.cell?_alloc_mark]
 simpa using hj
theorem kjob_sl (j:Job) (w:World) (hl:Laid w) (hi:∀ n∈[j.st,j.wk,j.tr,j.un],I64' n) :
  Calls Tryz.prog 48 #[j.val] w fun e w'=>e=.returned (.string (strOf (jobTxt j)))∧Below w.heap.size w w':=by
 obtain ⟨a,b,c,d⟩:=j
 have HL:=zH hl;have HI:=zH hi;clear hl hi
 show Calls Tryz.prog 48 #[.agg #[zI zi a,zI zi b,zI zi c,zI zi d]] w _
 go_enter Tryz.func48,Tryz.ntmps48
 go_wp2_with (go_at_call 50;refine (nums_sl _ [a,b,c,d] _ ((HL.out.alloc _).alloc _) (ivs_row (by simp) (by simp) _ rfl _) (by simp) HI.out).mono ?_;rintro e w1 ⟨rfl,hb1⟩)
 go_ret
 exact ⟨rfl,(((Below.refl _ _).alloc (Nat.le_refl _) _).alloc (by simp) _).trans (hb1.mono (by simp<;>omega))⟩
theorem check_used (b:Nat) (w:World) (h0:w.cell? ⟨b,0,none⟩=some (.pointer (some ⟨b,0,none⟩))) :
  Calls Tryz.prog 81 #[.pointer (some ⟨b,0,none⟩)] w fun e w'=>e=.returned (.tuple #[])∧w'=w:=by
 obtain ⟨j,hj,_⟩:=Option.map_eq_some_iff.1 (show (Tryz.prog.info? 44).map (·.size)=some 2 by kernel_rfl)
 go_enter Tryz.func81,Tryz.ntmps81
 go_wp2
 rw [Lib.run_neq_ptr_same w _ Tryz.underlying41 hj]
 go_wp2
 go_end0
 exact ⟨rfl,rfl⟩
theorem check_fresh (b:Nat) (w:World) (h0:w.cell? ⟨b,0,none⟩=some (.pointer none)) (hsh:w.shape? b=some (46,3)) (hfz:w.frozen? ⟨b,0,none⟩=false) :
  Calls Tryz.prog 81 #[.pointer (some ⟨b,0,none⟩)] w fun e w'=>e=.returned (.tuple #[])∧w'=w.setCell ⟨b,0,none⟩ (.pointer (some ⟨b,0,none⟩)):=by
 obtain ⟨j,hj,hjs⟩:=Option.map_eq_some_iff.1 (show (Tryz.prog.info? 44).map (·.size)=some 2 by kernel_rfl)
 have hlies:liesAt Tryz.prog Tryz.prog.depth 46 (3 / Tryz.prog.cellsOf 46) 0 44 1=true:=by kernel_rfl
 go_enter Tryz.func81,Tryz.ntmps81
 go_wp2
 rw [Lib.run_to_unsafe w ⟨b,0,none⟩ Tryz.underlying41 Tryz.underlying177 hj (by rw [hjs];decide) hsh (show (0:Nat)<3 by decide)]
 simp only [Result.andThen]
 rw [Oper.upon_value]
 go_wp2
 rw [run_callFunc_extern Tryz.func110 (by kernel_rfl) (by kernel_rfl) (by kernel_rfl) (e:=Extern.AbiNoEscape.same) (by kernel_rfl)]
 rw [Lib.run_noEscape]
 simp only [Result.andThen]
 rw [Oper.upon_value]
 go_wp2
 rw [Lib.run_from_unsafe w ⟨b,0,none⟩ Tryz.underlying177 Tryz.underlying41 hj hsh hlies]
 simp only [Result.andThen]
 rw [Oper.upon_value]
 go_wp2
 go_end0
 exact ⟨rfl,rfl⟩
theorem run_append_str {w:World} (ty:TypeId) {v:Value} {l:List UInt8} (s:ByteArray) (hv:OwnB w v l) (hlen:l.length+s.size≤140737488355328) :
  ∃ v' w',(Builtin.append_ #[42,9] ty #[v,.string s]).run Tryz.prog w=.ok v' w'∧OwnB w' v' (l++s.data.toList)∧Upd (fun k=>v.ownBlock=some k) w w'∧(∀ k,v'.ownBlock=some k→v.ownBlock=some k∨w.heap.size≤k):=by
 obtain ⟨i,hi,hz,hsz,hby⟩:=info_parts Tryz.infoU8
 have hml:maxLen=9223372036854775807:=rfl
 have hss:s.data.toList.length=s.size:=rfl
 have hsc:Lib.strCells s=bvs s.data.toList:=rfl
 rcases hv with ⟨rfl,rfl⟩|⟨g,cap,cur,rfl,hb,h1,h2,h3,h4⟩
 ·obtain ⟨v',w',hr,how,hg,_⟩:=Lib.run_append_own_string (P:=Tryz.prog) w w.heap.size 42 9 ty 5 i Tryz.underlying42 Tryz.underlying9 hi hz hsz hby (.slice none 0 0) 0 [] ⟨rfl,.inl ⟨rfl,rfl⟩⟩ s (by simp at hlen;omega) (by simp at hlen;omega) (Nat.le_refl _)
  refine ⟨v',w',hr,?_,Upd.of_grown hg,fun k hk=>.inr ?_⟩
  ·rcases how.2 with ⟨rfl,hn⟩|⟨g,cap,cur,rfl,hb,hg',hnc,hcm,hcs,ht⟩
   ·refine .inl ⟨rfl,?_⟩
    rw [List.nil_append]
    exact List.length_eq_zero_iff.1 (by rw [hss];omega)
   ·refine .inr ⟨g,cap,cur.toList,by simp,by simpa [BlockAt] using hg',by simpa using hnc,by simp;omega,hcm,?_⟩
    rw [List.nil_append,←hsc]
    simpa [hss] using ht
  ·rcases how.2 with ⟨rfl,hn⟩|⟨g,cap,cur,rfl,hb,_⟩
   ·simp [Value.ownBlock] at hk
   ·simp [Value.ownBlock] at hk;omega
 ·by_cases hroom:l.length+s.size≤cap
  ·have hr:=Lib.run_append_room_string (P:=Tryz.prog) w 42 9 ty 5 i Tryz.underlying42 Tryz.underlying9 hi hsz g l.length cap cur.toArray hb s hroom (by simp;omega)
   refine ⟨_,_,hr,.inr ⟨g,cap,(bvs l++bvs s.data.toList++cur.drop (l.length+s.size)),by simp,?_,by simpa using hroom,?_,h3,?_⟩,?_,fun k hk=>.inl hk⟩
   ·have:=hb.setRow (cur.take l.length++bvs s.data.toList++cur.drop (l.length+s.size))
    rw [h4] at this
    simpa [h4,hsc] using this
   ·simp;omega
   ·rw [bvs_append,List.take_append_of_le_length (by simp)]
    exact List.take_of_length_le (by simp)
   ·exact Upd.of_grown (grown_setRow (grown_refl w _) _)
  ·have holds:∀ j u,(bvs l)[j]? = some u→w.cell? ((⟨g,0,none⟩:Addr).add j)=some u:=fun j u hu=>by
    rw [Addr.add_lit,Nat.zero_add]
    refine hb.cell j u ?_
    rw [←h4,List.getElem?_take] at hu
    split at hu
    ·exact hu
    ·cases hu
   have hr:=Lib.run_append_grow_string (P:=Tryz.prog) w 42 9 ty 5 i (.int .u8 0) Tryz.underlying42 Tryz.underlying9 hi hz ⟨g,0,none⟩ l.length cap (bvs l) (by simp [hsz]) holds s (by omega) (by omega) (by rw [hby];exact growslice_fits (by omega) (by omega))
   have hge:=grownCap_ge w (l.length+s.size) cap 5
   have hcm:=grownCap_le_maxLen w (l.length+s.size) cap 5 (by omega)
   refine ⟨_,_,hr,.inr ⟨w.heap.size,_,bvs l++bvs s.data.toList++(Builtin.zeroCells (Value.cells (.int .u8 0)) (grownCap w (l.length+s.size) cap 5-(l.length+s.size))).toList,by simp,?_,by simpa using hge,?_,hcm,?_⟩,?_,fun k hk=>.inr ?_⟩
   ·rw [hsc];exact laid_three w.drew 5 _ _ _
   ·simp only [List.length_append,bvs_length,Array.length_toList,size_zeroCells]
    simp [Value.cells];omega
   ·rw [bvs_append,List.take_append_of_le_length (by simp)]
    exact List.take_of_length_le (by simp)
   ·exact (Upd.drew (Upd.refl _ w)).alloc _
   ·simp [Value.ownBlock] at hk;omega
theorem wpList_append_str {w:World} {ops:Array Oper} {rest:List Oper} {o:Oper} {a:Act} {Q:Exit→Act→World→Prop} (hgd:o.guard=none) (s x:Operand)
  (ho:o.op=.call { callee:=.builtin .append,args:=#[s,x],argTypes:=#[42,9] })
  {v:Value} {l m:List UInt8} {R:HP} (hs:a.eval s=v) (hx:a.eval x=.string (strOf m)) (hv:Holds w (ownb v l*R)) (hlen:l.length+m.length≤140737488355328)
  (h:∀ v' w',Holds w' (ownb v' (l++m)*R)→Quiet w w'→wpList Tryz.prog ops Q rest (a.put o.dst v') w'):wpList Tryz.prog ops Q (o::rest) a w:=by
 obtain ⟨F,⟨ho',rfl⟩,kk⟩:=hv.open
 obtain ⟨v',w',hr,h2,h3,h4⟩:=run_append_str o.type (strOf m) ho' (by rw [strOf_size];exact hlen)
 rw [strOf_data] at h2
 refine wpList_plain hgd fun _ hK=>?_
 unfold Oper.wp execOp
 simp only [ho,resolve,invoke,builtin,Sem.run_bind,Sem.run_pure,Result.andThen_ok,List.map_toArray,List.map_cons,List.map_nil,hs,hx,hr]
 exact hK _ _ (h v' w' (kk w' (fun k=>v'.ownBlock=some k) (ownb v' (l++m)) ⟨h2,rfl⟩ h3 h4) (Quiet.upd h3))
def kcs (b bg:Nat) (u:Bool) (v:Value):List Value:=[if u then .pointer (some ⟨b,0,none⟩) else .pointer none,v,.pointer (some ⟨bg,0,none⟩)]
def kst (b bg:Nat) (told:List UInt8):HP:=HP.ex fun x:Bool×Value=>bl b 46 (kcs b bg x.1 x.2)*ownb x.2 told
theorem kst_open {b bg:Nat} {told:List UInt8} {R:HP} {w:World} (h:Holds w (kst b bg told*R)):∃ u v,Holds w (bl b 46 (kcs b bg u v)*(ownb v told*R)):=by
 obtain ⟨x,h⟩:=HP.ex_mul h
 exact ⟨x.1,x.2,h.eq (by simp only [HP.assoc])⟩
theorem kst_close {b bg:Nat} {u:Bool} {v:Value} {told:List UInt8} {R:HP} {w:World} (h:Holds w (bl b 46 (kcs b bg u v)*(ownb v told*R))):Holds w (kst b bg told*R):=
 HP.mul_ex (A:=fun x:Bool×Value=>bl b 46 (kcs b bg x.1 x.2)*ownb x.2 told) (x:=(u,v)) (h.eq (by simp only [HP.assoc]))
theorem check_sl (b bg:Nat) (u:Bool) (v:Value) (w:World) {R:HP} (h:Holds w (bl b 46 (kcs b bg u v)*R)) :
  Calls Tryz.prog 81 #[.pointer (some ⟨b,0,none⟩)] w fun e w'=>e=.returned (.tuple #[])∧Quiet w w'∧Holds w' (bl b 46 (kcs b bg true v)*R):=by
 have hb:=h.bl
 cases u with
 | true=>
  exact (check_used b w (hb.cell 0 _ rfl)).mono fun e w' ⟨he,hw⟩=>⟨he,hw▸Quiet.refl _,hw▸h⟩
 | false=>
  refine (check_fresh b w (hb.cell 0 _ rfl) ?_ (hb.free 0)).mono fun e w' ⟨he,hw⟩=>⟨he,hw▸(Quiet.refl _).setCell _ _,hw▸h.setB 0 _⟩
  unfold BlockAt at hb
  simp [World.shape?,hb,kcs]
theorem write_sl (b bg:Nat) (told s:List UInt8) (w:World) {R:HP} (h:Holds w (kst b bg told*R)) (hlen:told.length+s.length≤1000000000) :
  Calls Tryz.prog 56 #[.pointer (some ⟨b,0,none⟩),.string (strOf s)] w fun e w'=>e=.returned (.tuple #[zI zi s.length,.nilIface])∧Quiet w w'∧Holds w' (kst b bg (told++s)*R):=by
 obtain ⟨u,v,h⟩:=kst_open h
 obtain ⟨va,vc,rfl,-,-⟩:=h.two.ownb.bytes.shape
 have H:=zH h;clear h
 have hsz:=strOf_size s
 go_enter Tryz.func56,Tryz.ntmps56
 go_wp2_with fail
 refine (check_sl b bg u _ _ H.out).mono ?_
 rintro e w1 ⟨rfl,q1,h1⟩
 have H1:=zH h1;have c1:=h1.bl.cell 1 _ rfl;have Q1:=zH q1;clear h1 q1
 go_wp2_with (at_builtin;refine wpList_append_str (l:=told) (m:=s) rfl (.tmp 12) (.tmp 13) rfl rfl rfl H1.out.two (by omega) ?_;intro v' w2 h2 q2;obtain ⟨va',vc',rfl,-,-⟩:=h2.ownb.bytes.shape;have H2:=zH h2;have Q2:=zH q2;have c2:=h2.two.bl.cell 1 _ rfl;have f2:=h2.two.bl.free 1;clear h2 q2)
 go_ret2
 refine ⟨rfl,(Q1.out.trans Q2.out).setCell _ _,kst_close (u:=true) (v:=.slice va' (told.length+s.length) vc') ?_⟩
 have hf:=H2.out.two.setB 1 (.slice va' (told.length+s.length) vc')
 rw [List.length_append] at hf
 exact hf
def kbl (b bg:Nat):HP:=HP.ex fun x:Bool×Value=>bl b 46 (kcs b bg x.1 x.2)
theorem kbl_open {b bg:Nat} {R:HP} {w:World} (h:Holds w (kbl b bg*R)):∃ u v,Holds w (bl b 46 (kcs b bg u v)*R):=by
 obtain ⟨x,h⟩:=HP.ex_mul h
 exact ⟨x.1,x.2,h⟩
theorem kbl_close {b bg:Nat} {u:Bool} {v:Value} {R:HP} {w:World} (h:Holds w (bl b 46 (kcs b bg u v)*R)):Holds w (kbl b bg*R):=
 HP.mul_ex (A:=fun x:Bool×Value=>bl b 46 (kcs b bg x.1 x.2)) (x:=(u,v)) h
theorem reset_sl (b bg:Nat) (w:World) {R:HP} (h:Holds w (kbl b bg*R)) :
  Calls Tryz.prog 14 #[.pointer (some ⟨b,0,none⟩)] w fun e w'=>e=.returned (.tuple #[])∧Quiet w w'∧Holds w' (kst b bg []*R):=by
 obtain ⟨u,v,h⟩:=kbl_open h
 have H:=zH h
 have c0:=h.bl.cell 0 _ rfl
 have c1:=h.bl.cell 1 _ rfl
 have f0:=h.bl.free 0
 have f1:=h.bl.free 1
 clear h
 go_enter Tryz.func14,Tryz.ntmps14
 go_wp2
 go_end0
 exact ⟨rfl,((Quiet.refl _).setCell _ _).setCell _ _,kst_close (u:=false) (v:=.slice none 0 0) ((H.out.setB 0 (.pointer none)).setB 1 (.slice none 0 0)).nilB.two⟩
theorem Holds.give {w w':World} {v:Value} {l:List UInt8} {R:HP} (h:Holds w (Go.Proofs.YtfihmpkkpgmdhaaGreatDoor.ownb v l*R)) (hu:Upd (fun k=>v.ownBlock=some k) w w'):Holds w' R:=by
 obtain ⟨F,⟨ho,rfl⟩,kk⟩:=h.open
 exact (kk w' (fun _=>False) HP.emp (fun _ h=>h) hu (fun k h=>h.elim)).right
theorem upd_freeze {w:World} {g n:Nat}:Upd (fun k=>some g=some k) w (w.freeze ⟨g,0,none⟩ n):=by
 unfold World.freeze
 split
 ·exact Upd.refl _ w
 ·exact ⟨rfl,rfl,rfl,by simp,fun k hk hf=>by
   simp only [Array.getElem?_modify]
   rw [if_neg (fun e=>hf (congrArg some e))]⟩
theorem string_sl (b bg:Nat) (told:List UInt8) (w:World) {R:HP} (h:Holds w (kst b bg told*R)) :
  Calls Tryz.prog 16 #[.pointer (some ⟨b,0,none⟩)] w fun e w'=>e=.returned (.string (strOf told))∧Quiet w w'∧Holds w' (kbl b bg*R):=by
 obtain ⟨u,v,h⟩:=kst_open h
 have H:=zH h
 have c0:w.cell? ⟨b,1,none⟩=some v:=h.bl.cell 1 _ rfl
 have ho:=h.two.ownb
 have hUS:∀ (W:World) (q:Option Addr),(Builtin.unsafeString_ #[75,3] 9 #[.pointer q,zI zi 0]).run Tryz.prog W=.ok (.string .empty) W:=fun W q=>Lib.run_unsafeString_none W _ _ _ q
 rcases ho with ⟨rfl,rfl⟩|⟨g,cap,cur,rfl,hb,h1,h2,h3,h4⟩
 ·have c1:w.drew.cell? ⟨b,1,none⟩=some (.slice none 0 0):=c0
  have hSD:(Builtin.unsafeSliceData_ #[42] 75 #[.slice none 0 0]).run Tryz.prog w.drew=.ok (.pointer none) w.drew:=rfl
  clear h
  go_enter Tryz.func16,Tryz.ntmps16
  go_wp2
  go_region
  all_goals (go_wp2;go_ret;exact ⟨rfl,(Quiet.refl _).drew,kbl_close (H.out.drew.two.give (Upd.refl _ _))⟩)
 ·have hshg:w.drew.shape? g=some (5,cur.length):=by have hb':w.drew.heap[g]? = some (.cells cur.toArray 5 (0,0)):=hb;simp [World.shape?,hb']
  by_cases hl:told=[]
  ·subst hl
   by_cases hc0:cap=0
   ·subst hc0
    have c1:w.drew.cell? ⟨b,1,none⟩=some (.slice (some ⟨g,0,none⟩) 0 0):=c0
    have hSD:(Builtin.unsafeSliceData_ #[42] 75 #[.slice (some ⟨g,0,none⟩) 0 0]).run Tryz.prog w.drew=.ok (.pointer (some ⟨w.drew.heap.size,0,none⟩)) (w.drew.alloc (.view ⟨g,0,none⟩ 5)):=
     Lib.run_unsafeSliceData_zero w.drew _ _ 5 Tryz.underlying75 ⟨g,0,none⟩ 0 (5,cur.length) hshg
    have c2:(w.drew.alloc (.view ⟨g,0,none⟩ 5)).cell? ⟨b,1,none⟩=some (.slice (some ⟨g,0,none⟩) 0 0):=(h.drew.alloc _).bl.cell 1 _ rfl
    have c3:(w.alloc (.view ⟨g,0,none⟩ 5)).drew.cell? ⟨b,1,none⟩=some (.slice (some ⟨g,0,none⟩) 0 0):=c2
    clear h
    go_enter Tryz.func16,Tryz.ntmps16
    go_wp2
    go_region
    all_goals (go_wp2;go_ret;exact ⟨rfl,((Quiet.refl _).drew).alloc _,kbl_close ((H.out.drew.alloc _).two.give (Upd.refl _ _))⟩)
   ·have c1:w.drew.cell? ⟨b,1,none⟩=some (.slice (some ⟨g,0,none⟩) 0 cap):=c0
    have hSD:(Builtin.unsafeSliceData_ #[42] 75 #[.slice (some ⟨g,0,none⟩) 0 cap]).run Tryz.prog w.drew=.ok (.pointer (some ⟨g,0,none⟩)) w.drew:=Lib.run_unsafeSliceData_row _ _ _ _ _ _ hc0
    clear hc0 h
    go_enter Tryz.func16,Tryz.ntmps16
    go_wp2
    go_region
    all_goals (go_wp2;go_ret;exact ⟨rfl,(Quiet.refl _).drew,kbl_close (H.out.drew.two.give (Upd.refl _ _))⟩)
  ·have hl0:told.length≠0:=fun e=>hl (List.length_eq_zero_iff.1 e)
   have c1:w.drew.cell? ⟨b,1,none⟩=some (.slice (some ⟨g,0,none⟩) told.length cap):=c0
   have hSD:(Builtin.unsafeSliceData_ #[42] 75 #[.slice (some ⟨g,0,none⟩) told.length cap]).run Tryz.prog w.drew=.ok (.pointer (some ⟨g,0,none⟩)) w.drew:=Lib.run_unsafeSliceData_row _ _ _ _ _ _ (by omega)
   have hU:(Builtin.unsafeString_ #[75,3] 9 #[.pointer (some ⟨g,0,none⟩),zI zi told.length]).run Tryz.prog w.drew=.ok (.string (strOf told)) (w.drew.freeze ⟨g,0,none⟩ told.length):=by
    refine Lib.run_unsafeString_row w.drew 75 3 9 5 Tryz.underlying75 (by kernel_rfl) g cur.length hshg told hl (by omega) (by unfold maxLen at h3;omega) ?_
    intro j x hx
    rw [Addr.add_lit,Nat.zero_add]
    refine hb.cell j _ ?_
    have hj:(bvs told)[j]? = some (.int .u8 x.toNat):=by simp [bvs,bv,hx]
    rw [←h4,List.getElem?_take] at hj
    split at hj
    ·exact hj
    ·cases hj
   have hq:Holds (w.drew.freeze ⟨g,0,none⟩ told.length) (bl b 46 (kcs b bg u (.slice (some ⟨g,0,none⟩) told.length cap))*R):=H.out.drew.two.give upd_freeze
   have hQ:Quiet w (w.drew.freeze ⟨g,0,none⟩ told.length):=((Quiet.refl w).drew).trans (Quiet.upd (upd_freeze (w:=w.drew) (g:=g) (n:=told.length)))
   have HH:=zH hq;have HQ:=zH hQ
   clear h hl hl0 hq hQ h4
   go_enter Tryz.func16,Tryz.ntmps16
   go_wp2
   go_region
   all_goals (go_wp2;go_ret;exact ⟨rfl,HQ.out,kbl_close HH.out⟩)
end Go.Proofs.YtfihmpkkpgmdhaaGreatDoor
