/-
  What the proof of DeskDoes leans on: definitions, laws, contracts of functions. No condition besides those that each theorem names.
-/
import Derived.Test.YtfihmpkkpgmdhaaGreatDoorZD35
import Derived.Test.YtfihmpkkpgmdhaaGreatDoorZD36
import Derived.Test.YtfihmpkkpgmdhaaGreatDoorZD39
import Derived.Test.YtfihmpkkpgmdhaaGreatDoorZD40
import Derived.Test.YtfihmpkkpgmdhaaGreatDoorZD41
import Derived.Test.YtfihmpkkpgmdhaaGreatDoorZD42
import Derived.Test.YtfihmpkkpgmdhaaGreatDoorZD43
import Derived.Test.YtfihmpkkpgmdhaaGreatDoorZD46
set_option maxRecDepth 100000
set_option maxHeartbeats 16000000
set_option linter.unusedVariables false
set_option linter.unusedSimpArgs false
set_option linter.unnecessarySimpa false
namespace Go.Proofs.YtfihmpkkpgmdhaaGreatDoor
open Go.RowKit
theorem orderOf_cases {w:List UInt8} {m:List Int} {o:Ord} (h:orderOf w m=some o) :
  (∃ a,w=tAdd∧m=[a]∧o=⟨1,0,a,0,0,0⟩)∨(∃ a b,w=tTake∧m=[a,b]∧o=⟨2,0,0,0,a,b⟩)∨(∃ a b c d,w=tRenew∧m=[a,b,c,d]∧o=⟨3,0,a,b,c,d⟩) ∨
  (∃ a b c,w=tDone∧m=[a,b,c]∧o=⟨4,0,a,b,c,0⟩)∨(∃ a b c,w=tDrop∧m=[a,b,c]∧o=⟨5,0,a,b,c,0⟩):=by
 unfold orderOf at h
 split at h
 ·rename_i e
  split at h
  ·injection h with h;exact .inl ⟨_,e,rfl,h.symm⟩
  ·cases h
 split at h
 ·rename_i e
  split at h
  ·injection h with h;exact .inr (.inl ⟨_,_,e,rfl,h.symm⟩)
  ·cases h
 split at h
 ·rename_i e
  split at h
  ·injection h with h;exact .inr (.inr (.inl ⟨_,_,_,_,e,rfl,h.symm⟩))
  ·cases h
 split at h
 ·rename_i e
  split at h
  ·injection h with h;exact .inr (.inr (.inr (.inl ⟨_,_,_,e,rfl,h.symm⟩)))
  ·cases h
 split at h
 ·rename_i e
  split at h
  ·injection h with h;exact .inr (.inr (.inr (.inr ⟨_,_,_,e,rfl,h.symm⟩)))
  ·cases h
 cases h
theorem order_tests {x:List UInt8} {n:List Int} (h:∀ n0 m,n=n0::m→orderOf x m=none) :
  (decide (x=tAdd)&&decide ((n.length:Int)=2))=false∧(decide (x=tTake)&&decide ((n.length:Int)=3))=false∧(decide (x=tRenew)&&decide ((n.length:Int)=5))=false ∧
  (decide (x=tDone)&&decide ((n.length:Int)=4))=false∧(decide (x=tDrop)&&decide ((n.length:Int)=4))=false:=by
 refine ⟨?_,?_,?_,?_,?_⟩
 ·by_cases e:x=tAdd
  ·subst e
   match n,h with
   | [n0,a],h=>have:=h n0 [a] rfl;simp [orderOf] at this
   | [],_ | [_],_=>simp
   | _::_::_::l,_=>simp;omega
  ·simp [e]
 ·by_cases e:x=tTake
  ·subst e
   match n,h with
   | [n0,a,b],h=>have:=h n0 [a,b] rfl;simp [orderOf,show tTake≠tAdd by decide] at this
   | [],_ | [_],_ | [_,_],_=>simp
   | _::_::_::_::l,_=>simp;omega
  ·simp [e]
 ·by_cases e:x=tRenew
  ·subst e
   match n,h with
   | [n0,a,b,c,d],h=>have:=h n0 [a,b,c,d] rfl;simp [orderOf,show tRenew≠tAdd by decide,show tRenew≠tTake by decide] at this
   | [],_ | [_],_ | [_,_],_ | [_,_,_],_ | [_,_,_,_],_=>simp
   | _::_::_::_::_::_::l,_=>simp;omega
  ·simp [e]
 ·by_cases e:x=tDone
  ·subst e
   match n,h with
   | [n0,a,b,c],h=>have:=h n0 [a,b,c] rfl;simp [orderOf,show tDone≠tAdd by decide,show tDone≠tTake by decide,show tDone≠tRenew by decide] at this
   | [],_ | [_],_ | [_,_],_ | [_,_,_],_=>simp
   | _::_::_::_::_::l,_=>simp;omega
  ·simp [e]
 ·by_cases e:x=tDrop
  ·subst e
   match n,h with
   | [n0,a,b,c],h=>have:=h n0 [a,b,c] rfl;simp [orderOf,show tDrop≠tAdd by decide,show tDrop≠tTake by decide,show tDrop≠tRenew by decide,show tDrop≠tDone by decide] at this
   | [],_ | [_],_ | [_,_],_ | [_,_,_],_=>simp
   | _::_::_::_::_::l,_=>simp;omega
  ·simp [e]
theorem step_tests {x:List UInt8} {n:List Int} (h:stepReq x n=none) :
  (decide (x=tOpen)&&decide ((n.length:Int)=1))=false∧(decide (x=tDown)&&decide ((n.length:Int)=1))=false∧(decide (x=tTick)&&decide ((n.length:Int)=1))=false:=by
 match n,h with
 | [a],h=>
  unfold stepReq at h
  refine ⟨?_,?_,?_⟩
  ·by_cases e:x=tOpen
   ·simp [e] at h
   ·simp [e]
  ·by_cases e:x=tDown
   ·subst e;simp [show tDown≠tOpen by decide] at h
   ·simp [e]
  ·by_cases e:x=tTick
   ·subst e;simp [show tTick≠tOpen by decide,show tTick≠tDown by decide] at h
   ·simp [e]
 | [],_=>simp
 | _::_::l,_=>refine ⟨?_,?_,?_⟩<;>simp<;>omega
theorem ask_tests {x:List UInt8} {n:List Int} (h:askReq x n=.what) :
  (decide (x=tJob)&&decide ((n.length:Int)=2))=false∧(decide (x=tDisk)&&decide ((n.length:Int)=0))=false∧(decide (x=tLog)&&decide ((n.length:Int)=0))=false∧(decide (x=tHolders)&&decide ((n.length:Int)=1))=false:=by
 match n,h with
 | [],h=>
  unfold askReq at h
  refine ⟨by simp,?_,?_,by simp⟩
  ·by_cases e:x=tDisk
   ·simp [e] at h
   ·simp [e]
  ·by_cases e:x=tLog
   ·subst e;simp [show tLog≠tDisk by decide] at h
   ·simp [e]
 | [a],h=>
  unfold askReq at h
  refine ⟨by simp,by simp,by simp,?_⟩
  by_cases e:x=tHolders
  ·simp [e] at h
  ·simp [e]
 | [a,b],h=>
  unfold askReq at h
  refine ⟨?_,by simp,by simp,by simp⟩
  by_cases e:x=tJob
  ·simp [e] at h
  ·simp [e]
 | _::_::_::l,_=>refine ⟨?_,?_,?_,?_⟩<;>simp<;>omega
theorem tear_ask {n:List Int}:stepReq tTear n=none∧askReq tTear n=.what:=by
 have e1:tTear≠tOpen:=by decide
 have e2:tTear≠tDown:=by decide
 have e3:tTear≠tTick:=by decide
 have e4:tTear≠tDisk:=by decide
 have e5:tTear≠tLog:=by decide
 have e6:tTear≠tHolders:=by decide
 have e7:tTear≠tJob:=by decide
 match n with
 | []=>simp [stepReq,askReq,e4,e5]
 | [a]=>simp [stepReq,askReq,e1,e2,e3,e6]
 | [a,b]=>simp [stepReq,askReq,e7]
 | _::_::_::l=>simp [stepReq,askReq]
theorem tear_what {r:List (List UInt8)} (h:nodeReq (tTear::r)=none):reqOf (tTear::r)=.what:=by
 unfold reqOf
 simp only [h]
 cases numsOf r with
 | none=>rfl
 | some n=>simp only [tear_ask.1,tear_ask.2]
theorem rline_tear (b bc:Nat) (told:List UInt8) (g:Gld) (s:List UInt8) (r:List (List UInt8)) (hw:words s=tTear::r) (hg:g.Good) (w:World) {w0:World} {R:HP} (h:Holds w (rst b bc told*(chp bc g*(lay w0*R)))) (hs:s.length≤9000) (ht:told.length≤200000000) :
  Calls Tryz.prog 18 #[.pointer (some ⟨b,0,none⟩),.string (strOf s)] w fun e w'=>e=.returned (.tuple #[])∧Quiet w w'∧Holds w' (rst b bc (told++(tell g (reqOf (tTear::r))).2)*(chp bc (tell g (reqOf (tTear::r))).1*(lay w0*R))):=by
 have T:nodeReq (tTear::r)=none→tell g (reqOf (tTear::r))=(g,line tWhat):=fun e=>by rw [tear_what e];rfl
 match r,hw,T with
 | [],hw,T=>
  rw [T (by simp [nodeReq])]
  exact rlT_short b bc told g s [] (by simp) hw hg w h hs ht
 | [a],hw,T=>
  rw [T (by cases ha:numOf a<;>simp [nodeReq,ha])]
  exact rlT_short b bc told g s [a] (by simp) hw hg w h hs ht
 | a::x::u,hw,T=>
  cases hka:numOf a with
  | none=>
   rw [T (by simp [nodeReq,hka])]
   exact rlT_keep b bc told g s a x u hka hw hg w h hs ht
  | some K=>
   cases hm:numsOf u with
   | none=>
    rw [T (by simp [nodeReq,hka,hm])]
    obtain ⟨m0,y,h1,h2,h3⟩:=numsOf_none hm
    exact rlT_bad b bc told g s a K hka x u m0 ⟨y,h1,h2⟩ h3 hw hg w h hs ht
   | some n=>
    by_cases hord:∃ n0 m o,n=n0::m∧orderOf x m=some o
    ·obtain ⟨n0,m,o,rfl,ho⟩:=hord
     have hq:nodeReq (tTear::a::x::u)=some (⟨3,n0,K,o⟩,false):=by simp [nodeReq,hka,hm,ho]
     rw [show reqOf (tTear::a::x::u)=.step ⟨3,n0,K,o⟩ false by simp only [reqOf,hq]]
     rcases orderOf_cases ho with ⟨a1,rfl,rfl,rfl⟩|⟨a1,a2,rfl,rfl,rfl⟩|⟨a1,a2,a3,a4,rfl,rfl,rfl⟩|⟨a1,a2,a3,rfl,rfl,rfl⟩|⟨a1,a2,a3,rfl,rfl,rfl⟩
     ·exact rlT_orders b bc told g s _ u _ a K hka hw hm _ _ (.inl ⟨n0,a1,rfl,rfl,rfl,rfl⟩) hg w h hs ht
     ·exact rlT_orders b bc told g s _ u _ a K hka hw hm _ _ (.inr (.inl ⟨n0,a1,a2,rfl,rfl,rfl,rfl⟩)) hg w h hs ht
     ·exact rlT_orders b bc told g s _ u _ a K hka hw hm _ _ (.inr (.inr (.inl ⟨n0,a1,a2,a3,a4,rfl,rfl,rfl,rfl⟩))) hg w h hs ht
     ·exact rlT_orders b bc told g s _ u _ a K hka hw hm _ _ (.inr (.inr (.inr (.inl ⟨n0,a1,a2,a3,rfl,rfl,rfl,rfl⟩)))) hg w h hs ht
     ·exact rlT_orders b bc told g s _ u _ a K hka hw hm _ _ (.inr (.inr (.inr (.inr ⟨n0,a1,a2,a3,rfl,rfl,rfl,rfl⟩)))) hg w h hs ht
    ·have hno:∀ n0 m,n=n0::m→orderOf x m=none:=fun n0 m e=>by
      cases ho:orderOf x m with
      | none=>rfl
      | some o=>exact absurd ⟨n0,m,o,e,ho⟩ hord
     rw [T (by
      match n,hm,hno with
      | [],hm,_=>simp [nodeReq,hka,hm]
      | n0::m,hm,hno=>simp [nodeReq,hka,hm,hno n0 m rfl])]
     obtain ⟨t1,t2,t3,t4,t5⟩:=order_tests hno
     by_cases o1:x=tOpen∧n.length=1
     ·have u1:(decide (x=tOpen)&&decide ((n.length:Int)=1))=true:=by simp [o1.1,o1.2]
      have u2:(decide (x=tDown)&&decide ((n.length:Int)=1))=false:=by rw [o1.1];simp [show tOpen≠tDown by decide]
      have u3:(decide (x=tTick)&&decide ((n.length:Int)=1))=false:=by rw [o1.1];simp [show tOpen≠tTick by decide]
      exact rlT_whats b bc told g s x u n a K hka hw hm _ _ (.inr (.inl ⟨t1,t2,t3,t4,t5,u1,u2,u3,rfl,rfl⟩)) hg w h hs ht
     by_cases o2:x=tDown∧n.length=1
     ·have u1:(decide (x=tOpen)&&decide ((n.length:Int)=1))=false:=by rw [o2.1];simp [show tDown≠tOpen by decide]
      have u2:(decide (x=tDown)&&decide ((n.length:Int)=1))=true:=by simp [o2.1,o2.2]
      have u3:(decide (x=tTick)&&decide ((n.length:Int)=1))=false:=by rw [o2.1];simp [show tDown≠tTick by decide]
      exact rlT_whats b bc told g s x u n a K hka hw hm _ _ (.inr (.inr (.inl ⟨t1,t2,t3,t4,t5,u1,u2,u3,rfl,rfl⟩))) hg w h hs ht
     by_cases o3:x=tTick∧n.length=1
     ·have u1:(decide (x=tOpen)&&decide ((n.length:Int)=1))=false:=by rw [o3.1];simp [show tTick≠tOpen by decide]
      have u2:(decide (x=tDown)&&decide ((n.length:Int)=1))=false:=by rw [o3.1];simp [show tTick≠tDown by decide]
      have u3:(decide (x=tTick)&&decide ((n.length:Int)=1))=true:=by simp [o3.1,o3.2]
      exact rlT_whats b bc told g s x u n a K hka hw hm _ _ (.inr (.inr (.inr ⟨t1,t2,t3,t4,t5,u1,u2,u3,rfl,rfl⟩))) hg w h hs ht
     have v:∀ y:List UInt8,¬ (x=y∧n.length=1)→(decide (x=y)&&decide ((n.length:Int)=1))=false:=fun y hy=>by
      by_cases e:x=y
      ·have:¬ n.length=1:=fun e2=>hy ⟨e,e2⟩
       simp [e];omega
      ·simp [e]
     exact rlT_whats b bc told g s x u n a K hka hw hm _ _ (.inl ⟨t1,t2,t3,t4,t5,(v _ o1),(v _ o2),(v _ o3),rfl,rfl⟩) hg w h hs ht
theorem rline_sl (b bc:Nat) (told:List UInt8) (g:Gld) (s:List UInt8) (w:World) {w0:World} {R:HP} (h:Holds w (rst b bc told*(chp bc g*(lay w0*R)))) (hg:g.Good) (hs:s.length≤9000) (ht:told.length≤200000000) :
  Calls Tryz.prog 18 #[.pointer (some ⟨b,0,none⟩),.string (strOf s)] w fun e w'=>e=.returned (.tuple #[])∧Quiet w w'∧Holds w' (rst b bc (told++(tellL g s).2)*(chp bc (tellL g s).1*(lay w0*R))):=by
 unfold tellL
 cases hw:words s with
 | nil=>exact rl_none b bc told g s hw hg w h hs ht
 | cons x r=>
  by_cases hx:x=tTear
  ·subst hx
   exact rline_tear b bc told g s r hw hg w h hs ht
  cases hm:numsOf r with
  | none=>
   rw [show reqOf (x::r)=.what by simp [reqOf,nodeReq,hx,hm]]
   obtain ⟨m0,y,h1,h2,h3⟩:=numsOf_none hm
   exact rlN_bad b bc told g s x hx r m0 ⟨y,h1,h2⟩ h3 hw hg w h hs ht
  | some n=>
   by_cases hord:∃ n0 m o,n=n0::m∧orderOf x m=some o
   ·obtain ⟨n0,m,o,rfl,ho⟩:=hord
    have hq:nodeReq (x::r)=some (⟨2,n0,0,o⟩,decide (o.kind=2)):=by simp [nodeReq,hx,hm,ho]
    rw [show reqOf (x::r)=.step ⟨2,n0,0,o⟩ (decide (o.kind=2)) by simp only [reqOf,hq]]
    rcases orderOf_cases ho with ⟨a1,rfl,rfl,rfl⟩|⟨a1,a2,rfl,rfl,rfl⟩|⟨a1,a2,a3,a4,rfl,rfl,rfl⟩|⟨a1,a2,a3,rfl,rfl,rfl⟩|⟨a1,a2,a3,rfl,rfl,rfl⟩
    ·exact rlN_orders b bc told g s _ r _ hw hx hm _ _ (.inl ⟨n0,a1,rfl,rfl,rfl,rfl⟩) hg w h hs ht
    ·exact rlN_orders b bc told g s _ r _ hw hx hm _ _ (.inr (.inl ⟨n0,a1,a2,rfl,rfl,rfl,rfl⟩)) hg w h hs ht
    ·exact rlN_orders b bc told g s _ r _ hw hx hm _ _ (.inr (.inr (.inl ⟨n0,a1,a2,a3,a4,rfl,rfl,rfl,rfl⟩))) hg w h hs ht
    ·exact rlN_orders b bc told g s _ r _ hw hx hm _ _ (.inr (.inr (.inr (.inl ⟨n0,a1,a2,a3,rfl,rfl,rfl,rfl⟩)))) hg w h hs ht
    ·exact rlN_orders b bc told g s _ r _ hw hx hm _ _ (.inr (.inr (.inr (.inr ⟨n0,a1,a2,a3,rfl,rfl,rfl,rfl⟩)))) hg w h hs ht
   ·have hno:∀ n0 m,n=n0::m→orderOf x m=none:=fun n0 m e=>by
     cases ho:orderOf x m with
     | none=>rfl
     | some o=>exact absurd ⟨n0,m,o,e,ho⟩ hord
    have hq:nodeReq (x::r)=none:=by
     match n,hm,hno with
     | [],hm,_=>simp [nodeReq,hx,hm]
     | n0::m,hm,hno=>simp [nodeReq,hx,hm,hno n0 m rfl]
    cases hst:stepReq x n with
    | some X=>
     rw [show reqOf (x::r)=.step X false by simp only [reqOf,hq,hm,hst]]
     unfold stepReq at hst
     split at hst
     ·rename_i a
      split at hst
      ·rename_i e;injection hst with hst;subst hst;exact rlN_steps b bc told g s x r _ hw hx hm _ _ (.inl ⟨a,e,rfl,rfl,rfl⟩) hg w h hs ht
      split at hst
      ·rename_i e;injection hst with hst;subst hst;exact rlN_steps b bc told g s x r _ hw hx hm _ _ (.inr (.inl ⟨a,e,rfl,rfl,rfl⟩)) hg w h hs ht
      split at hst
      ·rename_i e;injection hst with hst;subst hst;exact rlN_steps b bc told g s x r _ hw hx hm _ _ (.inr (.inr (.inl ⟨a,e,rfl,rfl,rfl⟩))) hg w h hs ht
      cases hst
     ·cases hst
    | none=>
     rw [show reqOf (x::r)=askReq x n by simp only [reqOf,hq,hm,hst]]
     by_cases ha:askReq x n=.what
     ·rw [ha]
      obtain ⟨t1,t2,t3,t4,t5⟩:=order_tests hno
      obtain ⟨t6,t7,t8⟩:=step_tests hst
      obtain ⟨t9,t10,t11,t12⟩:=ask_tests ha
      exact rlN_steps b bc told g s x r n hw hx hm _ _ (.inr (.inr (.inr (.inr ⟨t1,t2,t3,t4,t5,t6,t7,t8,t9,t10,t11,t12,rfl,rfl⟩)))) hg w h hs ht
     match n,ha,hm with
     | [],ha,hm=>
      by_cases e1:x=tDisk
      ·rw [show askReq x []=.disk by simp [askReq,e1]]
       exact rlN_steps b bc told g s x r [] hw hx hm _ _ (.inr (.inr (.inr (.inl ⟨e1,rfl,rfl,rfl⟩)))) hg w h hs ht
      by_cases e2:x=tLog
      ·rw [show askReq x []=.log by rw [e2];simp [askReq,show tLog≠tDisk by decide]]
       exact rlN_asks b bc told g s x r [] hw hx hm _ _ (.inr ⟨e2,rfl,rfl,rfl⟩) hg w h hs ht
      exact absurd (by simp [askReq,e1,e2]) ha
     | [a],ha,hm=>
      by_cases e1:x=tHolders
      ·rw [show askReq x [a]=.holders a by simp [askReq,e1]]
       exact rlN_asks b bc told g s x r [a] hw hx hm _ _ (.inl ⟨a,e1,rfl,rfl,rfl⟩) hg w h hs ht
      exact absurd (by simp [askReq,e1]) ha
     | [n0,j],ha,hm=>
      by_cases e1:x=tJob
      ·rw [show askReq x [n0,j]=.job n0 j by simp [askReq,e1]]
       have hnone:g.nod n0=none→tell g (.job n0 j)=(g,line (tNo++nums [5])):=fun e=>by unfold tell;simp only [e]
       by_cases k1:n0<0
       ·rw [hnone (by unfold Gld.nod;rw [if_pos (.inl k1)])]
        exact rlN_jobs b bc told g s x r _ hw hx hm _ _ (.inl ⟨n0,j,e1,rfl,k1,rfl,rfl⟩) hg w h hs ht
       by_cases k2:3≤n0
       ·rw [hnone (by unfold Gld.nod;rw [if_pos (.inr k2)])]
        exact rlN_jobs b bc told g s x r _ hw hx hm _ _ (.inr (.inl ⟨n0,j,e1,rfl,k2,rfl,rfl⟩)) hg w h hs ht
       obtain ⟨i,hi⟩:∃ i:Nat,n0=(i:Int):=⟨n0.toNat,by omega⟩
       have hnod:g.nod n0=g.f i:=by
        unfold Gld.nod
        rw [if_neg (by omega),hi]
        rfl
       cases hf:g.f i with
       | none=>
        rw [hnone (by rw [hnod,hf])]
        exact rlN_jobs b bc told g s x r _ hw hx hm _ _ (.inr (.inr (.inl ⟨n0,j,e1,rfl,i,(by omega),hi,hf,rfl,rfl⟩))) hg w h hs ht
       | some nd=>
        rw [show tell g (.job n0 j)=(g,line (tJob++jobTxt (nd.t.job j))) by unfold tell;simp only [hnod,hf]]
        exact rlN_jobs b bc told g s x r _ hw hx hm _ _ (.inr (.inr (.inr ⟨n0,j,e1,rfl,i,(by omega),hi,nd,hf,rfl,rfl⟩))) hg w h hs ht
      exact absurd (by simp [askReq,e1]) ha
     | _::_::_::_,ha,_=>exact absurd rfl ha
end Go.Proofs.YtfihmpkkpgmdhaaGreatDoor
