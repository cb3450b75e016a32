/-
  What the proof of DeskDoes leans on: definitions, laws, contracts of functions. No condition besides those that each theorem names.
-/
import Derived.Lib.SplitLaws
import Derived.Lib.ItoaLen
import Derived.Lib.AtoiAll
import Derived.Lib.Join
import Derived.Test.YtfihmpkkpgmdhaaGreatDoorZD05
import Derived.Test.YtfihmpkkpgmdhaaGreatDoorZD06
import Derived.Test.YtfihmpkkpgmdhaaGreatDoorZD10
import Derived.Test.YtfihmpkkpgmdhaaGreatDoorZD02
import Derived.ProofKit
import Derived.OpenShut
import Derived.Deep.Slices
import Derived.Deep.Fields
import Derived.ChangeSame
import Derived.Carry
import Derived.Laws.Tables
import Derived.RowKit
import Derived.Test.YtfihmpkkpgmdhaaGreatDoorZD04
import Derived.Test.YtfihmpkkpgmdhaaGreatDoorZD07
set_option maxRecDepth 100000
set_option maxHeartbeats 16000000
set_option linter.unusedVariables false
set_option linter.unusedSimpArgs false
set_option linter.unnecessarySimpa false
section
namespace Go.Proofs.YtfihmpkkpgmdhaaGreatDoor
open Go
def pieces (c:UInt8):List UInt8→List (List UInt8)
 | []=>[[]]
 | b::l=>if b=c then []::pieces c l else match pieces c l with
  | []=>[[b]]
  | p::r=>(b::p)::r
theorem pieces_ne (c:UInt8) (l:List UInt8):∃ p r,pieces c l=p::r:=by
 cases l with
 | nil=>exact ⟨_,_,rfl⟩
 | cons b l=>
  unfold pieces
  split
  ·exact ⟨_,_,rfl⟩
  ·split<;>exact ⟨_,_,rfl⟩
theorem splitK_pieces (c:UInt8):∀ l:List UInt8,Lib.splitK [c] 0 (Lib.count l [c]) l=pieces c l
 | []=>by rw [Lib.count_miss (by simp [Lib.index])];rfl
 | b::l=>by
  have ih:=splitK_pieces c l
  by_cases h:b=c
  ·subst h
   have hix:Lib.index (b::l) [b]=((0:Nat):Int):=by rw [Lib.index];simp [List.isPrefixOf]
   rw [Lib.count_cons_eq,Nat.add_comm,Lib.splitK,hix,if_neg (by decide)]
   unfold pieces
   rw [if_pos rfl,←ih]
   rfl
  ·have hp:([c]:List UInt8).isPrefixOf (b::l)=false:=by simp [List.isPrefixOf,Ne.symm h]
   have hix:Lib.index (b::l) [c]=if Lib.index l [c] == -1 then -1 else Lib.index l [c]+1:=by rw [Lib.index,hp];simp
   rw [Lib.count_cons_ne b c l h]
   unfold pieces
   rw [if_neg h,←ih]
   cases hk:Lib.count l [c] with
   | zero=>rfl
   | succ k=>
    have hm:Lib.index l [c]≠-1:=fun e=>by rw [Lib.count_miss e] at hk;cases hk
    have hge:=Lib.index_ge l [c]
    obtain ⟨i,hi⟩:∃ i:Nat,Lib.index l [c]=i:=⟨(Lib.index l [c]).toNat,by omega⟩
    have hb:Lib.index (b::l) [c]=((i+1:Nat):Int):=by rw [hix,if_neg (fun e=>hm (beq_iff_eq.1 e)),hi];omega
    have n1:¬ (((i+1:Nat):Int) == -1)=true:=fun e=>by have:=beq_iff_eq.1 e;omega
    have n2:¬ ((i:Int) == -1)=true:=fun e=>by have:=beq_iff_eq.1 e;omega
    rw [Lib.splitK,Lib.splitK,hb,hi,if_neg n1,if_neg n2]
    simp [Int.toNat]
def wordsFrom (w:List UInt8):List UInt8→List (List UInt8)
 | []=>if w=[] then [] else [w]
 | b::l=>if b=32 then (if w=[] then wordsFrom [] l else w::wordsFrom [] l) else wordsFrom (w++[b]) l
def words (l:List UInt8):List (List UInt8):=wordsFrom [] l
theorem words_from:∀ (l w:List UInt8) (p:List UInt8) (r:List (List UInt8)),pieces 32 l=p::r→wordsFrom w l=((w++p)::r).filter fun x => !decide (x=[])
 | [],w,p,r,h=>by
  unfold pieces at h
  injection h with h1 h2
  subst h1;subst h2
  unfold wordsFrom
  by_cases hw:w=[]<;>simp [hw]
 | b::l,w,p,r,h=>by
  obtain ⟨p',r',hp⟩:=pieces_ne 32 l
  unfold pieces at h
  rw [hp] at h
  unfold wordsFrom
  by_cases hb:b=32
  ·rw [if_pos hb] at h ⊢
   injection h with h1 h2
   subst h1;subst h2
   rw [words_from l [] p' r' hp]
   by_cases hw:w=[]<;>simp [hw]
  ·rw [if_neg hb] at h ⊢
   injection h with h1 h2
   subst h1;subst h2
   rw [words_from l (w++[b]) p' r' hp]
   simp
theorem words_eq (l:List UInt8):(pieces 32 l).filter (fun x => !decide (x=[]))=words l:=by
 obtain ⟨p,r,hp⟩:=pieces_ne 32 l
 rw [words,words_from l [] p r hp,hp,List.nil_append]
theorem words_ne (l:List UInt8):∀ x∈words l,x≠[]:=fun x hx=>by
 rw [←words_eq] at hx
 simpa using (List.mem_filter.1 hx).2
theorem pieces_len (c : UInt8) : ∀ l : List UInt8, (pieces c l).length ≤ l.length + 1 ∧ ∀ x ∈ pieces c l, x.length ≤ l.length
  | [] => ⟨Nat.le_refl _, fun x hx => by have : x = [] := by simpa [pieces] using hx
                                         subst this; exact Nat.le_refl _⟩
  | b :: l => by
    have ih := pieces_len c l
    obtain ⟨p, r, hp⟩ := pieces_ne c l
    unfold pieces
    rw [hp] at ih ⊢
    split
    · refine ⟨by have := ih.1; simp at this ⊢; omega, fun x hx => ?_⟩
      rcases List.mem_cons.1 hx with rfl | hx
      · simp
      · have := ih.2 x hx; simp; omega
    · refine ⟨by have := ih.1; simp at this ⊢; omega, fun x hx => ?_⟩
      rcases List.mem_cons.1 hx with rfl | hx
      · have := ih.2 p (List.mem_cons_self ..); simp; omega
      · have := ih.2 x (List.mem_cons_of_mem _ hx); simp; omega
theorem words_len (l:List UInt8):(words l).length≤l.length+1:=by
 rw [←words_eq]
 exact Nat.le_trans (List.length_filter_le _ _) (pieces_len 32 l).1
theorem words_size (l:List UInt8):∀ x∈words l,x.length≤l.length:=fun x hx=>by
 rw [←words_eq] at hx
 exact (pieces_len 32 l).2 x (List.mem_filter.1 hx).1
def numOf (s:List UInt8):Option Int:=match Lib.atoiAll s with
 | .ok v=>if Lib.itoa v=s then some v else none
 | _=>none
def numsOf:List (List UInt8)→Option (List Int)
 | []=>some []
 | s::l=>match numOf s,numsOf l with
  | some v,some r=>some (v::r)
  | _,_=>none
theorem numsOf_len:∀ {l:List (List UInt8)} {r:List Int},numsOf l=some r→r.length=l.length
 | [],r,h=>by injection h with h;subst h;rfl
 | a::l,r,h=>by
  unfold numsOf at h
  split at h
  ·rename_i x y h1 h2
   injection h with h
   subst h
   simp [numsOf_len h2]
  ·cases h
theorem atoi_bound {s:List UInt8} {v:Int} (h:Lib.atoiAll s=.ok v) : -9223372036854775808≤v∧v≤9223372036854775807:=by
 unfold Lib.atoiAll at h
 split at h
 ·cases h
 ·simp only at h
  split at h
  ·cases h
  ·cases h
  ·split at h
   ·cases h
   ·split at h
    ·cases h
    ·injection h with h
     subst h
     split<;>omega
theorem numOf_bound {s:List UInt8} {v:Int} (h:numOf s=some v) : -9223372036854775808≤v∧v≤9223372036854775807:=by
 unfold numOf at h
 split at h
 ·rename_i x hx
  split at h
  ·injection h with h;subst h;exact atoi_bound hx
  ·cases h
 ·cases h
end Go.Proofs.YtfihmpkkpgmdhaaGreatDoor
end
section
namespace Go.Proofs.YtfihmpkkpgmdhaaGreatDoor
open Go
def tAdd:List UInt8:=[97,100,100]
def tTake:List UInt8:=[116,97,107,101]
def tRenew:List UInt8:=[114,101,110,101,119]
def tDone:List UInt8:=[100,111,110,101]
def tDrop:List UInt8:=[100,114,111,112]
def tOpen:List UInt8:=[111,112,101,110]
def tDown:List UInt8:=[100,111,119,110]
def tTick:List UInt8:=[116,105,99,107]
def tTear:List UInt8:=[116,101,97,114]
def tJob:List UInt8:=[106,111,98]
def tDisk:List UInt8:=[100,105,115,107]
def tLog:List UInt8:=[108,111,103]
def tHolders:List UInt8:=[104,111,108,100,101,114,115]
def tWhat:List UInt8:=[119,104,97,116]
def tNo:List UInt8:=[110,111]
def tOk:List UInt8:=[111,107]
def tRecord:List UInt8:=[114,101,99,111,114,100]
def tEnd:List UInt8:=[101,110,100]
inductive Req where
 | nothing
 | what
 | step (x:Stp) (take:Bool)
 | job (n j:Int)
 | disk
 | log
 | holders (j:Int)
def orderOf (w:List UInt8) (n:List Int):Option Ord:=
 if w=tAdd then (match n with
  | [j]=>some ⟨1,0,j,0,0,0⟩
  | _=>none)
 else if w=tTake then (match n with
  | [k,m]=>some ⟨2,0,0,0,k,m⟩
  | _=>none)
 else if w=tRenew then (match n with
  | [j,r,k,m]=>some ⟨3,0,j,r,k,m⟩
  | _=>none)
 else if w=tDone then (match n with
  | [j,r,k]=>some ⟨4,0,j,r,k,0⟩
  | _=>none)
 else if w=tDrop then (match n with
  | [j,r,k]=>some ⟨5,0,j,r,k,0⟩
  | _=>none)
 else none
def nodeReq:List (List UInt8)→Option (Stp×Bool)
 | []=>none
 | w::r=>
  if w=tTear then (match r with
   | []=>none
   | a::q=>match numOf a with
    | none=>none
    | some k=>match q with
     | []=>none
     | v::u=>match numsOf u with
      | some (n::m)=>(orderOf v m).map fun o=>(⟨3,n,k,o⟩,false)
      | _=>none)
  else match numsOf r with
   | some (n::m)=>(orderOf w m).map fun o=>(⟨2,n,0,o⟩,decide (o.kind=2))
   | _=>none
def stepReq (w:List UInt8) (n:List Int):Option Stp:=
 match n with
 | [a]=>if w=tOpen then some ⟨1,a,0,Ord.zero⟩ else if w=tDown then some ⟨4,a,0,Ord.zero⟩ else if w=tTick then some ⟨5,a,0,Ord.zero⟩ else none
 | _=>none
def askReq (w:List UInt8) (n:List Int):Req:=
 match n with
 | []=>if w=tDisk then .disk else if w=tLog then .log else .what
 | [a]=>if w=tHolders then .holders a else .what
 | [a,b]=>if w=tJob then .job a b else .what
 | _=>.what
def reqOf:List (List UInt8)→Req
 | []=>.nothing
 | w::r=>match nodeReq (w::r) with
  | some x=>.step x.1 x.2
  | none=>match numsOf r with
   | none=>.what
   | some n=>match stepReq w n with
    | some x=>.step x false
    | none=>askReq w n
def nums (l:List Int):List UInt8:=l.flatMap fun n=>32::Lib.itoa n
def line (l:List UInt8):List UInt8:=l++[10]
def ansTxt (a:Ans) (take:Bool):List UInt8:=if a.code≠0 then tNo++nums [a.code] else if take then tOk++nums [a.job,a.tr] else tOk
def jobTxt (j:Job):List UInt8:=nums [j.st,j.wk,j.tr,j.un]
def evTxt (e:Ev):List UInt8:=tRecord++nums [e.r.ep,e.r.o.kind,e.r.o.now,e.r.o.job,e.r.o.tr,e.r.o.wk,e.r.o.tm]++(32::tJob)++jobTxt e.j
def logTxt (l:List Ev):List UInt8:=l.flatMap fun e=>line (evTxt e)
def tell (g:Gld):Req→Gld×List UInt8
 | .nothing=>(g,[])
 | .what=>(g,line tWhat)
 | .step x take=>((g.step x).1,line (ansTxt (g.step x).2 take))
 | .job n j=>(g,line (match g.nod n with
  | none=>tNo++nums [5]
  | some nd=>tJob++jobTxt (nd.t.job j)))
 | .disk=>(g,line (tDisk++nums [g.d.ep,g.d.b.length,g.now]))
 | .log=>(g,logTxt (evs Tbl.zero (allB g.d.b))++line tEnd)
 | .holders j=>(g,line (tHolders++nums ((holders (evs Tbl.zero (allB g.d.b)) j).flatMap fun p=>[p.1,p.2])))
def tellL (g:Gld) (s:List UInt8):Gld×List UInt8:=tell g (reqOf (words s))
def tells:Gld→List (List UInt8)→Gld×List UInt8
 | g,[]=>(g,[])
 | g,s::l=>((tells (tellL g s).1 l).1,(tellL g s).2++(tells (tellL g s).1 l).2)
theorem tells_append (g:Gld) (l m:List (List UInt8)):tells g (l++m)=((tells (tells g l).1 m).1,(tells g l).2++(tells (tells g l).1 m).2):=by
 induction l generalizing g with
 | nil=>rfl
 | cons s l ih=>simp only [List.cons_append,tells,ih,List.append_assoc]
theorem tells_snoc (g:Gld) (l:List (List UInt8)) (s:List UInt8):tells g (l++[s])=((tellL (tells g l).1 s).1,(tells g l).2++(tellL (tells g l).1 s).2):=by
 rw [tells_append]
 simp [tells]
def Sm (n:Int):Prop:=0≤n∧n≤100000
theorem Sm.big {n:Int} (h:Sm n) : -9223372036854775808≤n∧n≤9223372036854775807:=by unfold Sm at h;omega
theorem nums_len:∀ {l:List Int},(∀ n∈l,Sm n)→(nums l).length≤22*l.length
 | [],_=>Nat.le_refl _
 | n::l,h=>by
  have h1:=(h n (List.mem_cons_self ..)).big
  have h2:=Lib.itoa_length_le n h1.1 h1.2
  have ih:=nums_len (l:=l) fun x hx=>h x (List.mem_cons_of_mem _ hx)
  unfold nums at ih ⊢
  simp only [List.flatMap_cons,List.length_append,List.length_cons]
  omega
theorem nums_cons (n:Int) (l:List Int):nums (n::l)=32::Lib.itoa n++nums l:=rfl
theorem nums_append (l m:List Int):nums (l++m)=nums l++nums m:=List.flatMap_append ..
structure Ans.Sm (a:Ans):Prop where
 code:YtfihmpkkpgmdhaaGreatDoor.Sm a.code
 job:YtfihmpkkpgmdhaaGreatDoor.Sm a.job
 tr:YtfihmpkkpgmdhaaGreatDoor.Sm a.tr
theorem sm_lit {n:Int} (h0:0≤n) (h1:n≤100000):Sm n:=⟨h0,h1⟩
theorem code_small {c:Int} (h0:0≤c) (h1:c≤10):(⟨c,0,0⟩:Ans).Sm:=⟨sm_lit h0 (by show c≤100000;omega),sm_lit (n:=0) (by decide) (by decide),sm_lit (n:=0) (by decide) (by decide)⟩
theorem chk_small (o:Ord):Sm (chk o):=by unfold chk Sm;(repeat' split)<;>omega
theorem act_small {t:Tbl} (h:t.Ok) (o:Ord):(t.act o).2.Sm:=by
 unfold Tbl.act
 split
 ·split
  ·rename_i i hi
   have h1:=firstW_spec _ _ _ hi
   have h2:=(h.jobs i).tr
   exact ⟨sm_lit (n:=0) (by decide) (by decide),⟨by show (0:Int)≤(i:Int);omega,by show (i:Int)≤100000;omega⟩,⟨by show 0≤(t.jobs i).tr+1;omega,by show (t.jobs i).tr+1≤100000;omega⟩⟩
  ·exact code_small (by decide) (by decide)
 ·simp only
  (repeat' split)<;>exact code_small (by decide) (by decide)
theorem did_small {t:Tbl} (h:t.Ok) (o:Ord):(t.did o).2.Sm:=by
 by_cases hc:chk o=0
 ·have hp:(t.pass o.now).Ok:=pass_ok h (chk_now hc).2
  have ha:=act_small hp o
  unfold Tbl.did
  rw [if_neg (by simpa using hc)]
  simp only
  split<;>exact ha
 ·rw [did_no hc]
  exact ⟨chk_small o,sm_lit (n:=0) (by decide) (by decide),sm_lit (n:=0) (by decide) (by decide)⟩
theorem append_code (d:Dsk) (e:Int) (m:List UInt8):0≤(d.append e m).2∧(d.append e m).2≤10:=by
 unfold Dsk.append
 (repeat' split)<;>simp
theorem order_small (d:Dsk) {n:Nod} (h:n.t.Ok) (o:Ord) (k:Nat):(n.order d o k).2.2.Sm:=by
 unfold Nod.order
 (repeat' split)
 ·exact code_small (by decide) (by decide)
 ·exact code_small (by decide) (by decide)
 ·exact did_small h o
 ·exact code_small (append_code ..).1 (append_code ..).2
 ·exact did_small h o
theorem tear_small (d:Dsk) {n:Nod} (h:n.t.Ok) (o:Ord) (k:Nat):Sm (n.tear d o k).2.2:=by
 have:=(order_small d h o k).code
 unfold Nod.tear
 simp only
 split<;>exact this
theorem Gld.Ok.nodOk {g:Gld} {l:List Rec} (h:g.Ok l) {x:Int} {n:Nod} (hn:g.nod x=some n):n.t.Ok:=by
 obtain ⟨_,hf,_⟩:=nod_some hn
 exact (h.fam.sv _ _ hf).2.1.ok
theorem step_small {g:Gld} {l:List Rec} (h:g.Ok l) (x:Stp):(g.step x).2.Sm:=by
 unfold Gld.step
 split
 ·(repeat' split)<;>exact code_small (by decide) (by decide)
 ·split
  ·(repeat' split)<;>exact code_small (by decide) (by decide)
  ·split
   ·split
    ·exact code_small (by decide) (by decide)
    ·rename_i n hn
     have hk:=h.nodOk hn
     split
     ·exact order_small _ hk _ _
     ·split
      ·exact ⟨tear_small _ hk _ _,sm_lit (n:=0) (by decide) (by decide),sm_lit (n:=0) (by decide) (by decide)⟩
      ·exact code_small (by decide) (by decide)
   ·exact code_small (by decide) (by decide)
theorem job_small {t:Tbl} (h:t.Ok) (n:Int):∀ x∈[(t.job n).st,(t.job n).wk,(t.job n).tr,(t.job n).un],Sm x:=by
 have k:(t.job n).Ok:=by
  unfold Tbl.job
  split
  ·exact h.jobs _
  ·exact (Tbl.zero_ok).jobs 0
 have h1:=k.st;have h2:=k.wk;have h3:=k.tr;have h4:=k.un
 intro x hx
 simp only [List.mem_cons,List.mem_nil_iff,or_false] at hx
 unfold Sm
 rcases hx with rfl|rfl|rfl|rfl<;>omega
def Job.ints (j:Job):List Int:=[j.st,j.wk,j.tr,j.un]
theorem allFrom_chk:∀ (n:Nat) (e:Int) (l:List UInt8),∀ r∈allFrom n e l,chkR r=0
 | 0,_,_,r,h=>by cases h
 | n+1,e,l,r,h=>by
  unfold allFrom at h
  split at h
  ·cases h
  ·rename_i hc
   rcases List.mem_cons.1 h with rfl|h
   ·exact (encB_decB (by omega)).1
   ·exact allFrom_chk n _ _ r h
theorem rec_small {r:Rec} (h:chkR r=0):∀ x∈[r.ep,r.o.kind,r.o.now,r.o.job,r.o.tr,r.o.wk,r.o.tm],Sm x:=by
 have h1:=chkR_range h
 have h2:=chk_range h1.2
 intro x hx
 simp only [List.mem_cons,List.mem_nil_iff,or_false] at hx
 unfold Sm
 rcases hx with rfl|rfl|rfl|rfl|rfl|rfl|rfl<;>omega
structure Ev.Sm (e:Ev):Prop where
 r:∀ x∈[e.r.ep,e.r.o.kind,e.r.o.now,e.r.o.job,e.r.o.tr,e.r.o.wk,e.r.o.tm],YtfihmpkkpgmdhaaGreatDoor.Sm x
 a:e.a.Sm
 j:∀ x∈[e.j.st,e.j.wk,e.j.tr,e.j.un],YtfihmpkkpgmdhaaGreatDoor.Sm x
theorem evs_small:∀ {l:List Rec} {t:Tbl},t.In→(∀ r∈l,chkR r=0)→∀ e∈evs t l,e.Sm
 | [],_,_,_,e,h=>by cases h
 | r::l,t,ht,hl,e,h=>by
  rcases List.mem_cons.1 h with rfl|h
  ·refine ⟨rec_small (hl r (List.mem_cons_self ..)),did_small ht.ok _,?_⟩
   unfold evOf
   simp only
   split
   ·exact job_small (did_in ht _).ok _
   ·intro x hx
    simp [Job.zero] at hx
    subst hx
    exact sm_lit (n:=0) (by decide) (by decide)
  ·exact evs_small (did_in ht _) (fun q hq=>hl q (List.mem_cons_of_mem _ hq)) e h
theorem disk_evs (b:List UInt8):∀ e∈evs Tbl.zero (allB b),e.Sm:=evs_small Tbl.zero_in (allFrom_chk _ _ _)
theorem disk_evs_len {b:List UInt8} (h:b.length≤1500):(evs Tbl.zero (allB b)).length≤166:=by
 rw [evs_len]
 have:=allB_len b
 omega
theorem evTxt_len {e:Ev} (h:e.Sm):(evTxt e).length≤260:=by
 have h1:=nums_len h.r
 have h2:=nums_len h.j
 unfold evTxt jobTxt
 simp only [List.length_append,List.length_cons,tRecord,tJob,List.length_nil] at h1 h2 ⊢
 omega
theorem logTxt_cons (e:Ev) (l:List Ev):logTxt (e::l)=line (evTxt e)++logTxt l:=rfl
theorem line_len (l:List UInt8):(line l).length=l.length+1:=by simp [line]
theorem logTxt_len:∀ {l:List Ev},(∀ e∈l,e.Sm)→(logTxt l).length≤261*l.length
 | [],_=>Nat.le_refl _
 | e::l,h=>by
  have h1:=evTxt_len (h e (List.mem_cons_self ..))
  have ih:=logTxt_len (l:=l) fun x hx=>h x (List.mem_cons_of_mem _ hx)
  rw [logTxt_cons,List.length_append,line_len,List.length_cons]
  omega
theorem logTxt_snoc (l:List Ev) (e:Ev):logTxt (l++[e])=logTxt l++line (evTxt e):=by simp [logTxt]
theorem holders_small {l:List Ev} (h:∀ e∈l,e.Sm) (j:Int):∀ p∈holders l j,Sm p.1∧Sm p.2:=fun p hp=>by
 unfold holders at hp
 obtain ⟨e,he,rfl⟩:=List.mem_map.1 hp
 have h1:=h e (List.mem_filter.1 he).1
 exact ⟨h1.r _ (by simp),h1.a.tr⟩
theorem holders_len (l:List Ev) (j:Int):(holders l j).length≤l.length:=by
 unfold holders
 rw [List.length_map]
 exact List.length_filter_le _ _
def flat2 (l:List (Int×Int)):List Int:=l.flatMap fun p=>[p.1,p.2]
theorem flat2_small {l:List (Int×Int)} (h:∀ p∈l,Sm p.1∧Sm p.2):∀ n∈flat2 l,Sm n:=fun n hn=>by
 obtain ⟨p,hp,hx⟩:=List.mem_flatMap.1 hn
 have:=h p hp
 simp only [List.mem_cons,List.mem_nil_iff,or_false] at hx
 rcases hx with rfl|rfl
 ·exact this.1
 ·exact this.2
theorem flat2_len (l:List (Int×Int)):(flat2 l).length=2*l.length:=by
 induction l with
 | nil=>rfl
 | cons p l ih=>unfold flat2 at ih ⊢;simp only [List.flatMap_cons,List.length_append,ih,List.length_cons,List.length_nil];omega
theorem ansTxt_len {a:Ans} (h:a.Sm) (take:Bool):(ansTxt a take).length≤100:=by
 have h1:(nums [a.code]).length≤22:=nums_len (by intro x hx;simp at hx;subst hx;exact h.code)
 have h2:(nums [a.job,a.tr]).length≤44:=nums_len (by intro x hx;simp at hx;rcases hx with rfl|rfl;exact h.job;exact h.tr)
 unfold ansTxt
 (repeat' split)<;>simp only [List.length_append,tNo,tOk,List.length_cons,List.length_nil]<;>omega
theorem tell_len {g:Gld} {l:List Rec} (h:g.Ok l) (q:Req):(tell g q).2.length≤50000:=by
 have hb:=h.fam.ok.b
 have hE:=disk_evs g.d.b
 have hL:=disk_evs_len hb
 unfold tell
 split
 ·exact Nat.zero_le _
 ·simp [line,tWhat]
 ·have:=ansTxt_len (step_small h ‹Stp›) ‹Bool›
  simp only [line,List.length_append,List.length_cons,List.length_nil]
  omega
 ·split
  ·have h5:(nums [5]).length≤22:=nums_len (by intro x hx;simp at hx;subst hx;exact ⟨by decide,by decide⟩)
   simp only [line,List.length_append,List.length_cons,List.length_nil,tNo]
   omega
  ·rename_i n j o nd hn
   have hj:(jobTxt (nd.t.job j)).length≤88:=nums_len (job_small (h.nodOk hn) j)
   simp only [line,List.length_append,List.length_cons,List.length_nil,tJob]
   omega
 ·have h1:=h.fam.ok.ep
  have h2:=h.now
  have h3:(nums [g.d.ep,g.d.b.length,g.now]).length≤66:=nums_len (by
   intro x hx
   simp only [List.mem_cons,List.mem_nil_iff,or_false] at hx
   unfold Sm
   rcases hx with rfl|rfl|rfl<;>omega)
  simp only [line,List.length_append,List.length_cons,List.length_nil,tDisk]
  omega
 ·have:=logTxt_len hE
  simp only [line,List.length_append,List.length_cons,List.length_nil,tEnd]
  omega
 ·rename_i j
  have h1:=nums_len (flat2_small (holders_small hE j))
  have h2:=flat2_len (holders (evs Tbl.zero (allB g.d.b)) j)
  have h3:=holders_len (evs Tbl.zero (allB g.d.b)) j
  unfold flat2 at h1 h2
  simp only [line,List.length_append,List.length_cons,List.length_nil,tHolders]
  omega
theorem tell_good {g:Gld} (h:∃ l,g.Ok l) (q:Req):∃ l,(tell g q).1.Ok l:=by
 cases q with
 | step x take=>obtain ⟨l,h⟩:=h;obtain ⟨l',hs⟩:=step_ok h x;exact ⟨l',hs.ok⟩
 | _=>exact h
theorem tells_good:∀ {g:Gld} (l:List (List UInt8)),(∃ r,g.Ok r)→∃ r,(tells g l).1.Ok r
 | _,[],h=>h
 | _,_::l,h=>tells_good l (tell_good h _)
theorem tells_len:∀ {g:Gld} (l:List (List UInt8)),(∃ r,g.Ok r)→(tells g l).2.length≤50000*l.length
 | _,[],_=>Nat.le_refl _
 | g,s::l,h=>by
  have ih:=tells_len l (tell_good h (reqOf (words s)))
  obtain ⟨r,hr⟩:=h
  have h1:=tell_len hr (reqOf (words s))
  unfold tells tellL
  simp only [List.length_append,List.length_cons]
  omega
end Go.Proofs.YtfihmpkkpgmdhaaGreatDoor
end
namespace Go.Proofs.YtfihmpkkpgmdhaaGreatDoor
open Go.RowKit
open Go.Lib renaming hid → zH
open Go.Value renaming int → zI
open Go.IntKind renaming i64 → zi
theorem iv_u8 {n:Int} (h0:0≤n) (h1:n≤255):Value.int .i64 ((u8 n).toNat:Int)=zI zi n:=by
 unfold u8
 rw [UInt8.toNat_ofNat']
 congr 1
 omega
theorem encH_ints {r:Rec} (h:chkR r=0):(encH r).map (fun y=>Value.int .i64 (y.toNat:Int))=[zI zi r.ep,zI zi r.o.kind,zI zi (r.o.now / 256),zI zi (r.o.now % 256),zI zi r.o.job,zI zi r.o.tr,zI zi r.o.wk,zI zi r.o.tm]:=by
 obtain ⟨p0,p1,hc⟩:=chkR_zero h
 obtain ⟨b0,b1,b2,b3,b4,b5,b6,b7,b8,b9,b10,b11⟩:=chk_bounds hc
 simp only [encH,List.map_cons,List.map_nil]
 rw [iv_u8 (by omega) (by omega),iv_u8 (by omega) (by omega),iv_u8 (by omega) (by omega),iv_u8 (by omega) (by omega),iv_u8 (by omega) (by omega),iv_u8 (by omega) (by omega),iv_u8 (by omega) (by omega),iv_u8 (by omega) (by omega)]
def BofPost (w:World) (r:Rec) (e:Ending) (w':World):Prop:=
 ∃ v,e=.returned v∧OwnB w' v (encB r)∧Below w.heap.size w w'∧∀ k,v.ownBlock=some k→w.heap.size≤k
theorem bytesof_any (p c n j t k m:Int) (w:World) (h0:chkR ⟨p,⟨c,n,j,t,k,m⟩⟩=0) :
  Calls Tryz.prog 94 #[.agg #[zI zi p,zI zi c,zI zi n,zI zi j,zI zi t,zI zi k,zI zi m]] w (BofPost w ⟨p,⟨c,n,j,t,k,m⟩⟩):=by
 obtain ⟨p0,p1,hc⟩:=chkR_zero h0
 obtain ⟨b0,b1,b2,b3,b4,b5,b6,b7,b8,b9,b10,b11⟩:=chk_bounds hc
 dsimp only at *
 have hi:=encH_ints h0
 dsimp only at hi
 generalize hL:encH ⟨p,⟨c,n,j,t,k,m⟩⟩=L at *
 have hlen:L.length=8:=by rw [←hL];rfl
 have HL:=zH hL;have H0:=zH h0;have HI:=zH hi
 clear h0 hc hL hi
 obtain ⟨i0,hi,hz0,hz1,hz2⟩:=info_parts Tryz.infoU8
 go_enter Tryz.func94,Tryz.ntmps94
 go_wp2_with fail
 generalize hB:w.heap.size+1+1=B
 go_loopw [6,5] (fun i v wr=>∃ q:Nat,q≤8∧i=zI zi q∧OwnB wr v (L.take q)∧BlockAt wr B 3 (L.map (fun y=>Value.int .i64 (y.toNat:Int)))∧Below w.heap.size w wr∧(∀ k,v.ownBlock=some k→B<k)) (fun i _ _=>8-(intOf i).toNat)
 case atStart=>
  refine ⟨0,by omega,rfl,OwnB.nil _,?_,?_,by simp [Value.ownBlock]⟩
  ·rw [HI.out,←hB]
   have:=BlockAt.new ((w.alloc (.cells #[zI zi p,zI zi c,zI zi n,zI zi j,zI zi t,zI zi k,zI zi m] 103)).alloc (.cells #[zI zi c,zI zi n,zI zi j,zI zi t,zI zi k,zI zi m] 84)) 3 [zI zi p,zI zi c,zI zi (n / 256),zI zi (n % 256),zI zi j,zI zi t,zI zi k,zI zi m]
   rw [World.size_alloc,World.size_alloc] at this
   exact this
  ·exact (((Below.refl w.heap.size w).alloc (Nat.le_refl _) _).alloc (by simp) _).alloc (by simp;omega) _
 case round=>
  obtain ⟨q,hq,rfl,ho,hblk,hbw,hfr⟩:=hrel
  by_cases hlt:q<8
  ·have hx:(L.map (fun y=>Value.int .i64 (y.toNat:Int)))[q]? = some (zI zi ((L.getD q 0).toNat:Int)):=by simp [hlen,hlt]
   have hcell:=hblk.cell q _ hx
   have hBlt:=hblk.lt
   have hy:IntKind.u8.wrap ((L.getD q 0).toNat:Int)=((L.getD q 0).toNat:Int):=by
    have:=(L.getD q 0).toNat_lt
    show ((L.getD q 0).toNat:Int) % 2 ^ 8=_
    omega
   have hn:=(own_new wr [.int .u8 ((L.getD q 0).toNat:Int)] [L.getD q 0] rfl (by simp)).bytes
   have ho2:=ho.upd (Upd.alloc (F:=fun _=>False) (Upd.refl _ _) (.cells #[.int .u8 ((L.getD q 0).toNat:Int)] 5)) (fun _ _ h=>h)
   have hT:L.take (q+1)=L.take q++[L.getD q 0]:=by
    rw [List.take_succ_eq_append_getElem (by omega)]
    simp [hlen,hlt]
   have HO2:=zH ho2;have HN:=zH hn;have HBK:=zH hblk;have HBW:=zH hbw;have HFR:=zH hfr;have HT:=zH hT
   clear ho2 hn hblk hbw hfr hT hx ho
   generalize L.getD q 0=y at *
   have hq8:(q:Int)<8:=by omega
   go_wp2_with (at_builtin;refine wpList_append_bytes (l:=L.take q) (m:=[y]) rfl _ _ 42 rfl 5 i0 Tryz.underlying42 hi hz0 hz1 hz2 rfl rfl rfl HO2.out HN.out (by simp;omega) ?_;intro v' w' hv' hu hfr')
   have hu':=Upd.mono (G:=fun k=>B<k) hu (fun k hk=>HFR.out k hk)
   go_round
   case rel=>
    refine ⟨q+1,by omega,by go_num,by rw [HT.out];exact hv',((HBK.out.alloc _).upd hu' (by omega)),(HBW.out.alloc HBW.out.size _).trans (hu'.below ?_ fun k hk=>?_),fun k hk=>?_⟩
    ·have:=HBW.out.size
     simp;omega
    ·omega
    ·rcases hfr' k hk with h|h
     ·exact HFR.out k h
     ·simp at h;omega
   case measure=>simp [intOf];omega
  ·obtain rfl:q=8:=by omega
   rw [List.take_of_length_le (by omega)] at ho
   have HO:=zH ho;have HBW:=zH hbw;have HFR:=zH hfr;have hBlt:=hblk.lt
   clear ho hblk hbw hfr
   go_wp2_with fail
   refine (rsum_any _ _ _ HO.out.bytes (by omega)).mono ?_
   rintro e w2 ⟨rfl,rfl⟩
   generalize hs:csum L=s
   have HS:=zH hs;clear hs
   have ho2:=HO.out.upd (Upd.alloc (F:=fun _=>False) (Upd.refl _ _) (.cells #[.int .u8 (s.toNat:Int)] 5)) (fun _ _ h=>h)
   have hn2:=(own_new wr [.int .u8 (s.toNat:Int)] [s] rfl (by simp)).bytes
   have HO2:=zH ho2;have HN2:=zH hn2;clear ho2 hn2
   go_wp2_with (at_builtin;refine wpList_append_bytes (l:=L) (m:=[s]) rfl _ _ 42 rfl 5 i0 Tryz.underlying42 hi hz0 hz1 hz2 rfl rfl rfl HO2.out HN2.out (by simp;omega) ?_;intro v' w' hv' hu hfr')
   go_ret
   have hu':=Upd.mono (G:=fun k=>B<k) hu (fun k hk=>HFR.out k hk)
   refine ⟨v',rfl,?_,(HBW.out.alloc HBW.out.size _).trans (hu'.below ?_ fun k hk=>?_),fun k hk=>?_⟩
   ·rw [encB,HL.out,HS.out];exact hv'
   ·have:=HBW.out.size
    simp;omega
   ·omega
   ·rcases hfr' k hk with h|h
    ·have:=HFR.out k h;omega
    ·simp at h;omega
def tab (b:Nat) (t:Tbl):HP:=tb b 146 t
theorem Holds.tab {w:World} {b:Nat} {t:Tbl} {A:HP} (h:Holds w (tab b t*A)):TableAt w b t:=h.bl
theorem do_sl (b:Nat) (t:Tbl) (c n j r k m:Int) (w:World) {R:HP} (h:Holds w (tab b t*R)) (hok:t.Ok) :
  Calls Tryz.prog 79 #[.pointer (some ⟨b,0,none⟩),.agg #[zI zi c,zI zi n,zI zi j,zI zi r,zI zi k,zI zi m]] w
   (Post w R (.agg #[zI zi (t.did ⟨c,n,j,r,k,m⟩).2.code,zI zi (t.did ⟨c,n,j,r,k,m⟩).2.job,zI zi (t.did ⟨c,n,j,r,k,m⟩).2.tr]) (tab b (t.did ⟨c,n,j,r,k,m⟩).1)):=
 (do_any b t c n j r k m w h.tab hok).mono fun e w' ⟨he,hg,ht⟩=>⟨he,Quiet.grown hg,Holds.grown h hg ht⟩
theorem new_sl (w:World) {R:HP} (h:Holds w R):Calls Tryz.prog 77 #[] w (PostX w R (fun b:Nat=>.pointer (some ⟨b,0,none⟩)) fun b=>tab b Tbl.zero):=
 (new_any w).mono fun e w' ⟨b,he,hl,hb,ht⟩=>⟨b,he,Quiet.below hb,h.newB hb ht hl⟩
theorem own_sl (b:Nat) (t:Tbl) (w:World) {R:HP} (h:Holds w (tab b t*R)):Calls Tryz.prog 135 #[.pointer (some ⟨b,0,none⟩)] w (PostX w (tab b t*R) (fun b:Nat=>.pointer (some ⟨b,0,none⟩)) fun b'=>tab b' t):=
 (own_any b t w h.tab).mono fun e w' ⟨b',he,hl,hb,ht⟩=>⟨b',he,Quiet.below hb,h.newB hb ht hl⟩
theorem job_sl (b:Nat) (t:Tbl) (n:Int) (w:World) {R:HP} (h:Holds w (tab b t*R)):Calls Tryz.prog 49 #[.pointer (some ⟨b,0,none⟩),zI zi n] w fun e w'=>e=.returned (t.job n).val∧Below w.heap.size w w':=job_any b t n w h.tab
def acells (a:Ans):List Value:=[zI zi a.code,zI zi a.job,zI zi a.tr]
def ovs (l:List Ord):List Value:=l.flatMap ocells
end Go.Proofs.YtfihmpkkpgmdhaaGreatDoor
section
namespace Go.Proofs.YtfihmpkkpgmdhaaGreatDoor
open Go.RowKit Go.ChangeShapes Go.WideShapes Go.Deep
theorem addr_of_cell {w:World} {a:Addr} {v:Value} (h:w.cell? a=some v):a=⟨a.block,a.off,none⟩:=by
 obtain ⟨b,o,s⟩:=a
 cases s with
 | none=>rfl
 | some s=>
  simp only [World.cell?] at h
  split at h<;>simp at h
section
variable {H:Type} {enc:TypeId×Value→H} {P:Program} {w:World} {base:Nat} {spare:Nat→Bool} {held:Bool}
end
end Go.Proofs.YtfihmpkkpgmdhaaGreatDoor
end
section
namespace Go.Proofs.YtfihmpkkpgmdhaaGreatDoor
open Go.RowKit
section
variable {P:Program}
theorem wpList_built {ops:Array Oper} {rest:List Oper} {o:Oper} {a:Act} {w:World} {Q:Exit→Act→World→Prop} (hg:o.guard=none) (t:TypeId) (parts:Array (Nat×Operand)) (ho:o.op=.build t parts) (vs:List Value)
  (hb:P.built t (parts.map fun (i,x)=>(i,a.eval x)).toList=some vs.toArray)
  (h:wpList P ops Q rest (a.put o.dst (.agg vs.toArray)) w):wpList P ops Q (o::rest) a w:=
 wpList_build hg t parts ho (by rw [hb];rfl) (by rw [hb];exact h)
end
end Go.Proofs.YtfihmpkkpgmdhaaGreatDoor
end
section
namespace Go.Proofs.YtfihmpkkpgmdhaaGreatDoor
open Go.RowKit
section
variable {P:Program} {ops:Array Oper} {S:World→Prop} {path:List Nat} {Q:Exit→Act→World→Prop}
theorem LexL.append {o:Oper} {i:Nat} {rest:List Oper} {a:Act} {w:World} (s x:Operand) (t:TypeId)
  (ho:o.op=.call { callee:=.builtin .append,args:=#[s,x],argTypes:=#[t,t] })
  (e:TypeId) (ti:TypeInfo) (z:Value) (size bytes:Nat) (ht:P.underlying t=some (.slice e)) (hi:P.info? e=some ti) (hz:ti.zero=some z) (hsz:ti.size=size) (hby:ti.bytes=bytes) (hzs:z.cells.size=size) (hs0:0<size)
  {v y:Value} {n m:Nat} {xs ys:List Value} {R:HP} (hs:a.eval s=v) (hx:a.eval x=y) (hw:Region.wanted o (yielded ops a.tmps)=true) (hp:i∈path)
  (hv:Holds w (rw_ e size v n xs*R)) (hy:RowAt w y m ys) (hyl:ys.length=m*size) (hy1:Ones ys) (hlen:(n+m)*bytes≤140737488355328) (hnm:n+m≤140737488355328)
  (h:∀ v' w',Holds w' (rw_ e size v' (n+m) (xs++ys)*R)→Quiet w w'→S w'∧LexL P ops S path Q (i+1) rest (a.put o.dst v') w'):LexL P ops S path Q i (o::rest) a w:=by
 obtain ⟨F,⟨hown,rfl⟩,hn⟩:=hv.open
 obtain ⟨v',w',hr,h2,h3,h4⟩:=run_append_row (P:=P) t o.type e ti z size bytes ht hi hz hsz hby hzs hs0 hown hy hyl hy1 hlen hnm
 obtain ⟨hS,hl⟩:=h v' w' (hn w' _ _ ⟨h2,rfl⟩ h3 h4) (Quiet.upd h3)
 refine LexL.value (w1:=w') (v:=v') hw hp ?_ hS hl
 unfold execOp
 simp only [ho,resolve,invoke,builtin,Sem.run_bind,Sem.run_pure,Result.andThen_ok,List.map_toArray,List.map_cons,List.map_nil,hs,hx,hr]
end
end Go.Proofs.YtfihmpkkpgmdhaaGreatDoor
end
section
namespace Go.Proofs.YtfihmpkkpgmdhaaGreatDoor
open Go
def dbLines:List (List UInt8):=[[111,112,101,110,32,48],
 [97,100,100,32,48,32,50],
 [116,97,107,101,32,48,32,49,32,53],
 [116,105,99,107,32,51],
 [116,101,97,114,32,52,32,100,111,110,101,32,48,32,50,32,49,32,49],
 [100,111,110,101,32,48,32,50,32,49,32,49],
 [111,112,101,110,32,49],
 [100,111,110,101,32,49,32,50,32,49,32,49],
 [106,111,98,32,49,32,50],
 [108,111,103],
 [104,111,108,100,101,114,115,32,50],
 [100,105,115,107],
 [120]]
def dbTold:List UInt8:=[111,107,10,111,107,10,111,107,32,50,32,49,10,111,107,10,111,107,10,110,111,32,49,48,10,111,107,10,111,107,10,106,111,98,32,51,32,49,32,49,32,48,10,114,101,99,111,114,100,32,49,32,49,32,48,32,50,32,48,32,48,32,48,32,106,111,98,32,49,32,48,32,48,32,48,10,114,101,99,111,114,100,32,49,32,50,32,48,32,48,32,48,32,49,32,53,32,106,111,98,32,50,32,49,32,49,32,53,10,114,101,99,111,114,100,32,50,32,52,32,51,32,50,32,49,32,49,32,48,32,106,111,98,32,51,32,49,32,49,32,48,10,101,110,100,10,104,111,108,100,101,114,115,32,49,32,49,10,100,105,115,107,32,50,32,50,55,32,51,10,119,104,97,116,10]
theorem begun_told:(tells Gld.zero dbLines).2=dbTold:=by decide +kernel
end Go.Proofs.YtfihmpkkpgmdhaaGreatDoor
end
