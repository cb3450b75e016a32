/-
  What the proof of DeskDoes leans on: definitions, laws, contracts of functions. No condition besides those that each theorem names.
-/
import Derived.Test.YtfihmpkkpgmdhaaGreatDoorZD21
set_option maxRecDepth 100000
set_option maxHeartbeats 16000000
set_option linter.unusedVariables false
set_option linter.unusedSimpArgs false
set_option linter.unnecessarySimpa false
section
namespace Go.Proofs.YtfihmpkkpgmdhaaGreatDoor
open Go
section
variable {P:Program} {ops:Array Oper} {S:World→Prop} {path:List Nat} {fz:Nat→Option (TypeId×List Value×(Nat→Value))} {Q:Exit→Act→World→Prop} {w0:World}
def Alc (P:Program) (ops:Array Oper) (o:Oper) (a:Act) (ty:TypeId) (cs:List Value) (mk:Nat→Value):Prop:=Region.wanted o (yielded ops a.tmps)=true∧∀ w:World,(execOp a.eval o).run P w=.ok (.value (mk w.heap.size)) (w.alloc (.cells cs.toArray ty))
theorem Alc.same {o:Oper} {a a':Act} {ty:TypeId} {cs:List Value} {mk:Nat→Value} (h:Alc P ops o a ty cs mk) (he:execOp a'.eval o=execOp a.eval o) (hw:Region.wanted o (yielded ops a'.tmps)=Region.wanted o (yielded ops a.tmps)):Alc P ops o a' ty cs mk:=⟨by rw [hw];exact h.1,fun w=>by rw [he];exact h.2 w⟩
def LexF (P:Program) (ops:Array Oper) (S:World→Prop) (path:List Nat) (fz:Nat→Option (TypeId×List Value×(Nat→Value))) (Q:Exit→Act→World→Prop) (w0:World):List Nat→Act→HP→Prop
 | [],a,A=>∀ w,S w→Holds w A→Quiet w0 w→Q .normal a w
 | i::rest,a,A=>∃ o,ops[i]? = some o ∧
   ((fz i=none∧∃ v,Yl P ops S o a v∧LexF P ops S path fz Q w0 rest (a.put o.dst v) A) ∨
    (fz i=none∧Region.wanted o (yielded ops a.tmps)=true∧i∈path∧∀ w R,S w→Quiet w0 w→Holds w (A*R)→Loud P o a w fun v w'=>S w'∧Quiet w0 w'∧∃ A',Holds w' (A'*R)∧LexF P ops S path fz Q w0 rest (a.put o.dst v) A') ∨
    (∃ ty cs mk,fz i=some (ty,cs,mk)∧Alc P ops o a ty cs mk∧∀ q:Nat,Live S w0 (bl q ty cs*A)→LexF P ops S path fz Q w0 rest (a.put o.dst (mk q)) (bl q ty cs*A)))
theorem LexF.pullF (hSa:∀ w o,S w→S (w.alloc o)) {i:Nat} {oi:Oper} {post:List Nat} {ty:TypeId} {cs:List Value} {mk:Nat→Value} (hi:ops[i]? = some oi) (hf:fz i=some (ty,cs,mk)) (hsel:∀ (j:Nat) (o:Oper) cs b,ops[j]? = some o→o.op≠.select cs b) :
  ∀ (pre:List Nat) (a:Act) (A:HP),Live S w0 A→(∀ p∈pre,∀ o,ops[p]? = some o→o.apart ops oi=true)→LexF P ops S path fz Q w0 (pre++i::post) a A →
   Alc P ops oi a ty cs mk∧∀ q:Nat,Live S w0 (bl q ty cs*A)→LexF P ops S path fz Q w0 (pre++post) (a.put oi.dst (mk q)) (bl q ty cs*A)
 | [],a,A,_,_,h=>by
  obtain ⟨o,ho,h⟩:=h
  rw [hi] at ho
  obtain rfl:=Option.some.inj ho
  rcases h with ⟨e,_⟩|⟨e,_⟩|⟨ty',cs',mk',e,hal,h⟩
  ·rw [hf] at e;cases e
  ·rw [hf] at e;cases e
  ·rw [hf] at e
   simp only [Option.some.injEq,Prod.mk.injEq] at e
   obtain ⟨rfl,rfl,rfl⟩:=e
   exact ⟨hal,h⟩
 | p::pre,a,A,hlive,hap,h=>by
  obtain ⟨op,hop,h⟩:=h
  obtain ⟨h1,h2,h3⟩:=Oper.apart_spec (hap p (by simp) op hop)
  have toA:∀ u,Alc P ops oi (a.put op.dst u) ty cs mk→Alc P ops oi a ty cs mk:=fun u hy=>
   hy.same (execOp_put (ops:=ops) oi (fun cs b=>hsel i oi cs b hi) a op.dst u h1).symm (wanted_put oi a op.dst u h1).symm
  have hx:∀ v,execOp (a.put oi.dst v).eval op=execOp a.eval op:=fun v=>execOp_put (ops:=ops) op (fun cs b=>hsel p op cs b hop) a oi.dst v h3
  have hwp:∀ v,Region.wanted op (yielded ops (a.put oi.dst v).tmps)=Region.wanted op (yielded ops a.tmps):=fun v=>wanted_put (ops:=ops) op a oi.dst v h3
  rcases h with ⟨e,u,hu,h⟩|⟨e,hw,hp,h⟩|⟨ty',cs',mk',e,hal,h⟩
  ·have ih:=LexF.pullF hSa hi hf hsel pre _ A hlive (fun q hq'=>hap q (by simp [hq'])) h
   refine ⟨toA u ih.1,fun q hq=>⟨op,hop,.inl ⟨e,u,hu.same (hx _) (hwp _),?_⟩⟩⟩
   rw [←Act.put_comm a u _ h2]
   exact ih.2 q hq
  ·obtain ⟨w,R,b1,b2,b3⟩:=hlive
   obtain ⟨u,w1,hS1,hq1,A1,hA1,hl1⟩:=(h w R b1 b2 b3).some
   refine ⟨toA u (LexF.pullF hSa hi hf hsel pre _ A1 ⟨w1,R,hS1,hq1,hA1⟩ (fun q hq'=>hap q (by simp [hq'])) hl1).1,fun q hq=>?_⟩
   refine ⟨op,hop,.inr (.inl ⟨e,by rw [hwp];exact hw,hp,fun w R hS hqu hA=>?_⟩)⟩
   have hl:=h w (bl q ty cs*R) hS hqu (hA.eq (by ac_rfl))
   unfold Loud at hl ⊢
   rw [hx]
   refine Loud.mono (o:=op) (a:=a) (w:=w) hl fun v w' ⟨hS',hq',A',hA',hl'⟩=>⟨hS',hq',bl q ty cs*A',hA'.eq (by ac_rfl),?_⟩
   rw [←Act.put_comm a v _ h2]
   exact (LexF.pullF hSa hi hf hsel pre _ A' ⟨w',bl q ty cs*R,hS',hq',hA'⟩ (fun q hq'=>hap q (by simp [hq'])) hl').2 q ⟨w',R,hS',hq',hA'.eq (by ac_rfl)⟩
  ·obtain ⟨w,R,b1,b2,b3⟩:=hlive
   have hl0:Live S w0 (bl w.heap.size ty' cs'*A):=⟨w.alloc (.cells cs'.toArray ty'),R,hSa _ _ b1,b2.alloc _,(b3.allocB ty' cs').eq (by ac_rfl)⟩
   refine ⟨toA _ (LexF.pullF hSa hi hf hsel pre _ _ hl0 (fun q hq'=>hap q (by simp [hq'])) (h _ hl0)).1,fun q hq=>?_⟩
   refine ⟨op,hop,.inr (.inr ⟨ty',cs',mk',e,hal.same (hx _) (hwp _),fun q' hq'=>?_⟩)⟩
   have hl1:Live S w0 (bl q' ty' cs'*A):=by obtain ⟨w,R,a1,a2,a3⟩:=hq';exact ⟨w,bl q ty cs*R,a1,a2,a3.eq (by ac_rfl)⟩
   have hl2:Live S w0 (bl q ty cs*(bl q' ty' cs'*A)):=by obtain ⟨w,R,a1,a2,a3⟩:=hq';exact ⟨w,R,a1,a2,a3.eq (by ac_rfl)⟩
   have ih:=(LexF.pullF hSa hi hf hsel pre _ _ hl1 (fun q hq'=>hap q (by simp [hq'])) (h q' hl1)).2 q hl2
   rw [←Act.put_comm a _ _ h2]
   rw [show bl q' ty' cs'*(bl q ty cs*A)=bl q ty cs*(bl q' ty' cs'*A) from by ac_rfl]
   exact ih
theorem LexF.pull (hSa:∀ w o,S w→S (w.alloc o)) {i:Nat} {oi:Oper} {post:List Nat} (hi:ops[i]? = some oi) (hq:i∉path) (hf:fz i=none) (hsel:∀ (j:Nat) (o:Oper) cs b,ops[j]? = some o→o.op≠.select cs b) :
  ∀ (pre:List Nat) (a:Act) (A:HP),Live S w0 A→(∀ p∈pre,∀ o,ops[p]? = some o→o.apart ops oi=true)→LexF P ops S path fz Q w0 (pre++i::post) a A →
   ∃ v,Yl P ops S oi a v∧LexF P ops S path fz Q w0 (pre++post) (a.put oi.dst v) A
 | [],a,A,_,_,h=>by
  obtain ⟨o,ho,h⟩:=h
  rw [hi] at ho
  obtain rfl:=Option.some.inj ho
  rcases h with ⟨_,h⟩|⟨_,_,hp,_⟩|⟨_,_,_,e,_⟩
  ·exact h
  ·exact absurd hp hq
  ·rw [hf] at e;cases e
 | p::pre,a,A,hlive,hap,h=>by
  obtain ⟨op,hop,h⟩:=h
  obtain ⟨h1,h2,h3⟩:=Oper.apart_spec (hap p (by simp) op hop)
  have toA:∀ u v,Yl P ops S oi (a.put op.dst u) v→Yl P ops S oi a v:=fun u v hy=>
   hy.same (execOp_put (ops:=ops) oi (fun cs b=>hsel i oi cs b hi) a op.dst u h1).symm (wanted_put oi a op.dst u h1).symm
  rcases h with ⟨e,u,hu,h⟩|⟨e,hw,hp,h⟩|⟨ty',cs',mk',e,hal,h⟩
  ·obtain ⟨v,hv,hl⟩:=LexF.pull hSa hi hq hf hsel pre _ A hlive (fun q hq'=>hap q (by simp [hq'])) h
   refine ⟨v,toA u v hv,op,hop,.inl ⟨e,u,hu.same (execOp_put (ops:=ops) op (fun cs b=>hsel p op cs b hop) a oi.dst v h3) (wanted_put op a oi.dst v h3),?_⟩⟩
   rw [←Act.put_comm a u v h2]
   exact hl
  ·obtain ⟨w,R,b1,b2,b3⟩:=hlive
   obtain ⟨u,w1,hS1,hq1,A1,hA1,hl1⟩:=(h w R b1 b2 b3).some
   obtain ⟨v,hv,_⟩:=LexF.pull hSa hi hq hf hsel pre _ A1 ⟨w1,R,hS1,hq1,hA1⟩ (fun q hq'=>hap q (by simp [hq'])) hl1
   refine ⟨v,toA u v hv,op,hop,.inr (.inl ⟨e,by rw [wanted_put op a oi.dst v h3];exact hw,hp,fun w R hS hqu hA=>?_⟩)⟩
   have hl:=h w R hS hqu hA
   unfold Loud at hl ⊢
   rw [execOp_put (ops:=ops) op (fun cs b=>hsel p op cs b hop) a oi.dst v h3]
   refine Loud.mono (o:=op) (a:=a) (w:=w) hl fun u' w' ⟨hS',hq',A',hA',hl'⟩=>⟨hS',hq',A',hA',?_⟩
   obtain ⟨v',hv',hl''⟩:=LexF.pull hSa hi hq hf hsel pre _ A' ⟨w',R,hS',hq',hA'⟩ (fun q hq'=>hap q (by simp [hq'])) hl'
   obtain rfl:=Yl.unique hS' (toA u' v' hv') (toA u v hv)
   rw [←Act.put_comm a u' v' h2]
   exact hl''
  ·obtain ⟨w,R,b1,b2,b3⟩:=hlive
   have hl0:Live S w0 (bl w.heap.size ty' cs'*A):=⟨w.alloc (.cells cs'.toArray ty'),R,hSa _ _ b1,b2.alloc _,(b3.allocB ty' cs').eq (by ac_rfl)⟩
   obtain ⟨v,hv,_⟩:=LexF.pull hSa hi hq hf hsel pre _ _ hl0 (fun q hq'=>hap q (by simp [hq'])) (h _ hl0)
   refine ⟨v,toA _ v hv,op,hop,.inr (.inr ⟨ty',cs',mk',e,hal.same (execOp_put (ops:=ops) op (fun cs b=>hsel p op cs b hop) a oi.dst v h3) (wanted_put op a oi.dst v h3),fun q' hq'=>?_⟩)⟩
   obtain ⟨v',hv',hl''⟩:=LexF.pull hSa hi hq hf hsel pre _ _ hq' (fun q hq'=>hap q (by simp [hq'])) (h q' hq')
   obtain rfl:=Yl.unique b1 (toA _ v' hv') (toA _ v hv)
   rw [←Act.put_comm a _ v' h2]
   exact hl''
theorem LexF.pullL {i:Nat} {oi:Oper} {post:List Nat} (hi:ops[i]? = some oi) (hf:fz i=none) (hsel:∀ (j:Nat) (o:Oper) cs b,ops[j]? = some o→o.op≠.select cs b) :
  ∀ (pre:List Nat) (a:Act) (A:HP),(∀ p∈pre,∀ o,ops[p]? = some o→o.apart ops oi=true)→(∀ p∈pre,p∉path∧fz p=none)→LexF P ops S path fz Q w0 (pre++i::post) a A →
   (∃ v,Yl P ops S oi a v∧LexF P ops S path fz Q w0 (pre++post) (a.put oi.dst v) A) ∨
   (Region.wanted oi (yielded ops a.tmps)=true∧∀ w R,S w→Quiet w0 w→Holds w (A*R)→Loud P oi a w fun v w'=>S w'∧Quiet w0 w'∧∃ A',Holds w' (A'*R)∧LexF P ops S path fz Q w0 (pre++post) (a.put oi.dst v) A')
 | [],a,A,_,_,h=>by
  obtain ⟨o,ho,h⟩:=h
  rw [hi] at ho
  obtain rfl:=Option.some.inj ho
  rcases h with ⟨_,h⟩|⟨_,hw,_,h⟩|⟨_,_,_,e,_⟩
  ·exact .inl h
  ·exact .inr ⟨hw,h⟩
  ·rw [hf] at e;cases e
 | p::pre,a,A,hap,hno,h=>by
  obtain ⟨op,hop,h⟩:=h
  obtain ⟨h1,h2,h3⟩:=Oper.apart_spec (hap p (by simp) op hop)
  rcases h with ⟨e,u,hu,h⟩|⟨_,_,hp,_⟩|⟨_,_,_,e,_⟩
  case inr.inl=>exact absurd hp (hno p (by simp)).1
  case inr.inr=>rw [(hno p (by simp)).2] at e;cases e
  have he:=execOp_put (ops:=ops) oi (fun cs b=>hsel i oi cs b hi) a op.dst u h1
  have hwp:=wanted_put (ops:=ops) oi a op.dst u h1
  have hu':∀ v,Yl P ops S op (a.put oi.dst v) u:=fun v=>hu.same (execOp_put (ops:=ops) op (fun cs b=>hsel p op cs b hop) a oi.dst v h3) (wanted_put op a oi.dst v h3)
  rcases LexF.pullL hi hf hsel pre _ A (fun q hq'=>hap q (by simp [hq'])) (fun q hq'=>hno q (by simp [hq'])) h with ⟨v,hv,hl⟩|⟨hw,hl⟩
  ·refine .inl ⟨v,hv.same he.symm hwp.symm,op,hop,.inl ⟨e,u,hu' v,?_⟩⟩
   rw [←Act.put_comm a u v h2]
   exact hl
  ·refine .inr ⟨by rw [←hwp];exact hw,fun w R hS hq hA=>?_⟩
   have hl:=hl w R hS hq hA
   unfold Loud at hl ⊢
   rw [he] at hl
   refine Loud.mono (o:=oi) (a:=a) (w:=w) hl fun v w' ⟨hS',hq',A',hA',hl'⟩=>⟨hS',hq',A',hA',op,hop,.inl ⟨e,u,hu' v,?_⟩⟩
   rw [←Act.put_comm a u v h2]
   exact hl'
def floatsOkF (ops:Array Oper) (path fl:List Nat):Bool:=path.all (fun x => !fl.contains x&&fl.all fun p => !decide (p<x) || path.any fun y=>decide (y≤x)&&hasEdge ops y p)
theorem wpAny_of_lexF (hSa:∀ w o,S w→S (w.alloc o)) (hok:lexOk ops path=true) {fl:List Nat} (hfl:∀ i,fz i≠none→i∈fl) (hfok:floatsOkF ops path fl=true) (hno:∀ i∈fl,fz i≠none) (R:HP):∀ (n:Nat) (rem:List Nat) (listed:Array Bool) (a:Act) (w:World) (A:HP),rem.length=n→rem.Pairwise (· < ·)→listed.size=ops.size →
  (∀ k,k∈rem↔k<ops.size∧listed.getD k true=false)→Closed ops listed→S w→Quiet w0 w→Holds w (A*R)→LexF P ops S path fz Q w0 rem a A→wpAny P .any ops Q n listed a w:=by
 have hok':=hok
 simp only [lexOk,Bool.and_eq_true] at hok'
 obtain ⟨⟨hns,hall⟩,hpath⟩:=hok'
 have hsel:=fun (j:Nat) (o:Oper) cs b=>Region.noSelect_spec hns j o cs b
 have hfp:∀ x∈path,x∉fl∧∀ p∈fl,p<x→∃ y∈path,y≤x∧hasEdge ops y p=true:=fun x hx=>by
  have:=List.all_eq_true.1 hfok x hx
  simp only [Bool.and_eq_true,Bool.not_eq_true',List.all_eq_true,Bool.or_eq_true,decide_eq_false_iff_not] at this
  refine ⟨(fun h=>by rw [List.contains_iff_mem.2 h] at this;cases this.1),fun p hp hlt=>?_⟩
  rcases this.2 p hp with h|h
  ·exact absurd hlt h
  ·obtain ⟨y,hy,h⟩:=List.any_eq_true.1 h
   simp only [Bool.and_eq_true,decide_eq_true_eq] at h
   exact ⟨y,hy,h.1,h.2⟩
 intro n
 induction n with
 | zero=>
  intro rem listed a w A hn _ _ hrem _ hS hq hA h
  obtain rfl:=List.eq_nil_of_length_eq_zero hn
  refine ⟨?_,h w hS hA.left hq⟩
  refine List.eq_nil_iff_forall_not_mem.2 fun i hi=>?_
  obtain ⟨h0,o,ho,_⟩:=mem_ready.1 hi
  have:=(hrem i).2 ⟨(Array.getElem?_eq_some_iff.1 ho).1,h0⟩
  cases this
 | succ n ih=>
  intro rem listed a w A hn hpw hsz hrem hcl hS hqu hA h
  have hedge:∀ j oj,ops[j]? = some oj→(∀ e∈oj.after,Region.binds .any e=true→e.on<j)∧∀ i,i<j→hasEdge ops j i=true∨∀ oi,ops[i]? = some oi→oi.apart ops oj=true:=by
   intro j oj hj
   have h1:=List.all_eq_true.1 hall j (List.mem_range.2 (Array.getElem?_eq_some_iff.1 hj).1)
   simp only [hj,Bool.and_eq_true] at h1
   refine ⟨fun e he hb=>?_,fun i hij=>?_⟩
   ·have:=Array.all_eq_true_iff_forall_mem.1 h1.1 e he
    simpa [hb] using this
   ·have:=List.all_eq_true.1 h1.2 i (List.mem_range.2 hij)
    simp only [Bool.or_eq_true] at this
    refine this.imp id fun h2 oi hoi=>?_
    simpa [hoi] using h2
  refine ⟨fun hr0=>?_,fun i hi=>?_⟩
  ·exfalso
   match rem,hn,hpw,hrem with
   | m::rest,_,hpw,hrem=>
    have hm:=(hrem m).1 (by simp)
    obtain ⟨om,hom⟩:∃ o,ops[m]? = some o:=⟨_,Array.getElem?_eq_getElem hm.1⟩
    have:m∈Region.ready .any ops listed:=mem_ready.2 ⟨hm.2,om,hom,fun e he hb=>by
     have hlt:=(hedge m om hom).1 e he hb
     have hno:e.on∉m::rest:=by
      intro hmem
      rcases List.mem_cons.1 hmem with h1|h1
      ·omega
      ·have:=(List.pairwise_cons.1 hpw).1 _ h1;omega
     have hlt2:e.on<listed.size:=by omega
     have hg:¬ listed.getD e.on true=false:=fun hf=>hno ((hrem e.on).2 ⟨by omega,hf⟩)
     simp [hlt2] at hg ⊢
     exact hg⟩
    rw [hr0] at this
    cases this
  ·obtain ⟨h0,oi,hoi,hall'⟩:=mem_ready.1 hi
   have hilt:=(Array.getElem?_eq_some_iff.1 hoi).1
   have him:=(hrem i).2 ⟨hilt,h0⟩
   obtain ⟨pre,post,rfl⟩:=List.append_of_mem him
   have hpre:∀ p∈pre,p<i:=fun p hp=>(List.pairwise_append.1 hpw).2.2 p hp i (by simp)
   have hun:∀ p∈pre,listed.getD p false=false:=fun p hp=>by
    have:=(hrem p).1 (by simp [hp])
    have hlt2:p<listed.size:=by omega
    simpa [hlt2] using this.2
   have hnoedge:∀ p∈pre,hasEdge ops i p=true→False:=fun p hp h1=>by
    obtain ⟨o',ho',e,he,hb,heq⟩:=hasEdge_iff.1 h1
    rw [hoi] at ho'
    obtain rfl:=Option.some.inj ho'
    have:=hall' e he hb
    rw [heq,hun p hp] at this
    cases this
   have hap:∀ p∈pre,∀ o,ops[p]? = some o→o.apart ops oi=true:=fun p hp o ho=>by
    rcases (hedge i oi hoi).2 p (hpre p hp) with h1|h1
    ·exact (hnoedge p hp h1).elim
    ·exact h1 o ho
   have hne:∀ k,k∈pre++post→k≠i:=fun k hk hki=>by
    subst hki
    rcases List.mem_append.1 hk with h1|h1
    ·exact Nat.lt_irrefl _ (hpre _ h1)
    ·have:=(List.pairwise_cons.1 (List.pairwise_append.1 hpw).2.1).1 _ h1;omega
   have next:∀ a' w' A',S w'→Quiet w0 w'→Holds w' (A'*R)→LexF P ops S path fz Q w0 (pre++post) a' A'→wpAny P .any ops Q n (listed.setIfInBounds i true) a' w':=fun a' w' A' hS' hq' hA' hl=>by
    refine ih (pre++post) _ a' w' A' (by simp at hn ⊢;omega) ?_ (by simpa using hsz) (fun k=>?_) ?_ hS' hq' hA' hl
    ·refine List.Pairwise.sublist ?_ hpw
     exact List.Sublist.append (List.Sublist.refl _) (List.sublist_cons_self _ _)
    ·by_cases hk:k=i
     ·subst hk
      constructor
      ·intro hm;exact absurd rfl (hne _ hm)
      ·intro hm
       have hlt2:k<listed.size:=by omega
       simp [hlt2] at hm
     ·rw [getD_set_ne true (Ne.symm hk),←hrem k]
      simp [hk]
    ·intro j o ho hj e he hb
     refine getD_set_true ?_
     by_cases hji:i=j
     ·subst hji
      rw [hoi] at ho
      obtain rfl:=Option.some.inj ho
      exact hall' e he hb
     ·rw [getD_set_ne false hji] at hj
      exact hcl j o ho hj e he hb
   have fin:∀ v,Yl P ops S oi a v→LexF P ops S path fz Q w0 (pre++post) (a.put oi.dst v) A→wpOp P ops Q i (wpAny P .any ops Q n (listed.setIfInBounds i true)) a w:=fun v hv hl=>by
    unfold wpOp
    simp only [hoi]
    rcases hv with ⟨hw,rfl⟩|⟨hw,hv⟩
    ·simp only [hw,Bool.false_eq_true,if_false]
     exact next _ _ A hS hqu hA hl
    ·simp only [hw,if_true]
     refine .inl ?_
     unfold Oper.wp
     rw [hv w hS]
     exact next _ _ A hS hqu hA hl
   by_cases hip:i∈path
   ·have hif:fz i=none:=by
     refine Classical.byContradiction fun hf=>(hfp i hip).1 (hfl i hf)
    have hnp:∀ p∈pre,p∉path∧fz p=none:=fun p hp=>by
     refine ⟨fun hpp=>?_,?_⟩
     ·have:=path_listed hpath hcl i hip (fun o ho=>by
       rw [hoi] at ho
       obtain rfl:=Option.some.inj ho
       exact hall') p hpp (hpre p hp)
      rw [hun p hp] at this
      cases this
     ·refine Classical.byContradiction fun hf=>?_
      obtain ⟨y,hy,hle,he⟩:=(hfp i hip).2 p (hfl p hf) (hpre p hp)
      by_cases hyi:y=i
      ·subst hyi
       exact hnoedge p hp he
      ·have hly:=path_listed hpath hcl i hip (fun o ho=>by
        rw [hoi] at ho
        obtain rfl:=Option.some.inj ho
        exact hall') y hy (by omega)
       obtain ⟨o',ho',e,hee,hb,heq⟩:=hasEdge_iff.1 he
       have:=hcl y o' ho' hly e hee hb
       rw [heq,hun p hp] at this
       cases this
    rcases LexF.pullL hoi hif hsel pre a A hap hnp h with ⟨v,hv,hl⟩|⟨hw,hl⟩
    ·exact fin v hv hl
    ·unfold wpOp
     simp only [hoi,hw,if_true]
     exact .inl ((hl w R hS hqu hA).wp fun v w' ⟨hS',hq',A',hA',hl'⟩=>next _ _ A' hS' hq' hA' hl')
   ·cases hf:fz i with
    | none=>
     obtain ⟨v,hv,hl⟩:=LexF.pull hSa hoi hip hf hsel pre a A ⟨w,R,hS,hqu,hA⟩ hap h
     exact fin v hv hl
    | some x=>
     obtain ⟨ty,cs,mk⟩:=x
     obtain ⟨⟨hw,hx⟩,hl'⟩:=LexF.pullF hSa hoi hf hsel pre a A ⟨w,R,hS,hqu,hA⟩ hap h
     have hA':Holds (w.alloc (.cells cs.toArray ty)) (bl w.heap.size ty cs*A*R):=(hA.allocB ty cs).eq (by ac_rfl)
     have hl:=hl' w.heap.size ⟨_,R,hSa _ _ hS,hqu.alloc _,hA'⟩
     unfold wpOp
     simp only [hoi,hw,if_true]
     refine .inl ?_
     unfold Oper.wp
     rw [hx w]
     exact next _ _ _ (hSa _ _ hS) (hqu.alloc _) hA' hl
def LexFL (P:Program) (ops:Array Oper) (S:World→Prop) (path:List Nat) (fz:Nat→Option (TypeId×List Value×(Nat→Value))) (Q:Exit→Act→World→Prop) (w0:World):Nat→List Oper→Act→HP→Prop
 | _,[],a,A=>∀ w,S w→Holds w A→Quiet w0 w→Q .normal a w
 | i,o::rest,a,A=>
   ((fz i=none∧∃ v,Yl P ops S o a v∧LexFL P ops S path fz Q w0 (i+1) rest (a.put o.dst v) A) ∨
    (fz i=none∧Region.wanted o (yielded ops a.tmps)=true∧i∈path∧∀ w R,S w→Quiet w0 w→Holds w (A*R)→Loud P o a w fun v w'=>S w'∧Quiet w0 w'∧∃ A',Holds w' (A'*R)∧LexFL P ops S path fz Q w0 (i+1) rest (a.put o.dst v) A') ∨
    (∃ ty cs mk,fz i=some (ty,cs,mk)∧Alc P ops o a ty cs mk∧∀ q:Nat,Live S w0 (bl q ty cs*A)→LexFL P ops S path fz Q w0 (i+1) rest (a.put o.dst (mk q)) (bl q ty cs*A)))
theorem LexF.of_list:∀ (l:List Oper) (i:Nat) (a:Act) (A:HP),(∀ k o,l[k]? = some o→ops[i+k]? = some o)→LexFL P ops S path fz Q w0 i l a A→LexF P ops S path fz Q w0 (List.range' i l.length) a A
 | [],_,_,_,_,h=>h
 | o::l,i,a,A,hl,h=>by
  have hl':∀ k o,l[k]? = some o→ops[i+1+k]? = some o:=fun k o hk=>by
   have:=hl (k+1) o hk
   rwa [show i+(k+1)=i+1+k by omega] at this
  refine ⟨o,hl 0 o rfl,?_⟩
  rcases h with ⟨e,v,hv,h⟩|⟨e,hw,hp,h⟩|⟨ty,cs,mk,e,hal,h⟩
  ·exact .inl ⟨e,v,hv,LexF.of_list l (i+1) _ _ hl' h⟩
  ·exact .inr (.inl ⟨e,hw,hp,fun w R h1 h2 h3=>(h w R h1 h2 h3).mono fun v w' ⟨h4,h5,A',h6,h7⟩=>⟨h4,h5,A',h6,LexF.of_list l (i+1) _ _ hl' h7⟩⟩)
  ·exact .inr (.inr ⟨ty,cs,mk,e,hal,fun q hq=>LexF.of_list l (i+1) _ _ hl' (h q hq)⟩)
theorem wp_region_textF {id:Nat} {a:Act} {w:World} (S:World→Prop) (path fl:List Nat) (fz:Nat→Option (TypeId×List Value×(Nat→Value))) (A:HP) (rem:List Nat) (hm:P.follows .mixedOrders=true) (hok:lexOk ops path=true)
  (hfok:floatsOkF ops path fl=true) (hfl:∀ i,fz i≠none→i∈fl) (hno:∀ i∈fl,fz i≠none) (hSa:∀ w o,S w→S (w.alloc o)) (hr:List.range ops.size=rem) (hS:S w.drew) (hA:Holds w.drew A)
  (h:LexF P ops S path fz Q w.drew rem a A):(Code.region id ops true).wp P Q a w:=by
 refine wp_region_any hm ?_
 subst hr
 have hemp:Holds w.drew (A*HP.emp):=by
  obtain ⟨F,hF⟩:=hA
  exact ⟨F,F,fun _=>False,fun _ _ h=>h,fun k=>by simp,hF,fun k h=>h⟩
 refine wpAny_of_lexF (S:=S) hSa hok hfl hfok hno HP.emp ops.size (List.range ops.size) _ a _ A (by simp) List.pairwise_lt_range (by simp) (fun k=>?_) ?_ hS (Quiet.refl _) hemp h
 ·by_cases hk:k<ops.size<;>simp [hk]
 ·intro j o _ hj
  by_cases hlt:j<ops.size<;>simp [hlt] at hj
theorem wp_region_lexF {l:List Oper} {id:Nat} {a:Act} {w:World} (S:World→Prop) (path fl:List Nat) (fz:Nat→Option (TypeId×List Value×(Nat→Value))) (A:HP) (hm:P.follows .mixedOrders=true) (hok:lexOk l.toArray path=true)
  (hfok:floatsOkF l.toArray path fl=true) (hfl:∀ i,fz i≠none→i∈fl) (hno:∀ i∈fl,fz i≠none) (hSa:∀ w o,S w→S (w.alloc o)) (hS:S w.drew) (hA:Holds w.drew A)
  (h:LexFL P l.toArray S path fz Q w.drew 0 l a A):(Code.region id l.toArray true).wp P Q a w:=by
 have h1:=LexF.of_list (ops:=l.toArray) l 0 a A (fun k o hk=>by simpa using hk) h
 refine wp_region_textF S path fl fz A _ hm hok hfok hfl hno hSa rfl hS hA ?_
 simpa [List.range_eq_range'] using h1
variable {o:Oper} {i:Nat} {rest:List Oper} {a:Act} {A:HP}
theorem LexFL.still {v:Value} (hf:fz i=none) (hw:Region.wanted o (yielded ops a.tmps)=true) (hv:∀ w,S w→(execOp a.eval o).run P w=.ok (.value v) w)
  (h:LexFL P ops S path fz Q w0 (i+1) rest (a.put o.dst v) A):LexFL P ops S path fz Q w0 i (o::rest) a A:=.inl ⟨hf,v,.inr ⟨hw,hv⟩,h⟩
theorem LexFL.call {f:FuncId} {args:Array Value} (hf:fz i=none) (hw:Region.wanted o (yielded ops a.tmps)=true) (hi:i∈path) (he:∀ w,S w→(execOp a.eval o).run P w=.ok (.enter f args) w)
  (h:∀ w R,S w→Quiet w0 w→Holds w (A*R)→Calls P f args w fun e w'=>∃ v,e=.returned v∧S w'∧Quiet w0 w'∧∃ A',Holds w' (A'*R)∧LexFL P ops S path fz Q w0 (i+1) rest (a.put o.dst v) A'):LexFL P ops S path fz Q w0 i (o::rest) a A:=
 .inr (.inl ⟨hf,hw,hi,fun w R h1 h2 h3=>by unfold Loud;rw [he w h1];exact h w R h1 h2 h3⟩)
theorem LexFL.store {w1:World→World} {A':HP} (hf:fz i=none) (hw:Region.wanted o (yielded ops a.tmps)=true) (hi:i∈path)
  (he:∀ w R,S w→Quiet w0 w→Holds w (A*R)→∃ w',(execOp a.eval o).run P w=.ok .skip w'∧S w'∧Quiet w0 w'∧Holds w' (A'*R)) (h:LexFL P ops S path fz Q w0 (i+1) rest (a.put o.dst undef) A'):LexFL P ops S path fz Q w0 i (o::rest) a A:=
 .inr (.inl ⟨hf,hw,hi,fun w R h1 h2 h3=>by obtain ⟨w',e,h4,h5,h6⟩:=he w R h1 h2 h3;unfold Loud;rw [e];exact ⟨h4,h5,A',h6,h⟩⟩)
theorem LexFL.made {ty:TypeId} {cs:List Value} {mk:Nat→Value} (hf:fz i=some (ty,cs,mk)) (hw:Region.wanted o (yielded ops a.tmps)=true) (he:∀ w:World,(execOp a.eval o).run P w=.ok (.value (mk w.heap.size)) (w.alloc (.cells cs.toArray ty)))
  (h:∀ q:Nat,Live S w0 (bl q ty cs*A)→LexFL P ops S path fz Q w0 (i+1) rest (a.put o.dst (mk q)) (bl q ty cs*A)):LexFL P ops S path fz Q w0 i (o::rest) a A:=.inr (.inr ⟨ty,cs,mk,hf,⟨hw,he⟩,h⟩)
theorem LexFL.done (h:∀ w,S w→Holds w A→Quiet w0 w→Q .normal a w):LexFL P ops S path fz Q w0 i [] a A:=h
end
def fzI (i1:Nat) (ty:TypeId) (l1:List Value) (n1 i2:Nat) (l2:List Value) (n2:Nat):Nat→Option (TypeId×List Value×(Nat→Value)):=fun i=>if i=i1 then some (ty,l1,fun q=>.slice (some ⟨q,0,Option.none⟩) n1 n1) else if i=i2 then some (ty,l2,fun q=>.slice (some ⟨q,0,Option.none⟩) n2 n2) else Option.none
theorem fzI_fl {i1 i2 n1 n2:Nat} {ty:TypeId} {l1 l2:List Value}:∀ i,fzI i1 ty l1 n1 i2 l2 n2 i≠Option.none→i∈[i1,i2]:=fun i h=>by
 unfold fzI at h
 split at h
 ·subst_vars;simp
 ·split at h
  ·subst_vars;simp
  ·exact absurd rfl h
theorem fzI_no {i1 i2 n1 n2:Nat} {ty:TypeId} {l1 l2:List Value}:∀ i∈[i1,i2],fzI i1 ty l1 n1 i2 l2 n2 i≠Option.none:=fun i h=>by
 unfold fzI
 simp only [List.mem_cons,List.not_mem_nil,or_false] at h
 split
 ·simp
 ·split
  ·simp
  ·omega
end Go.Proofs.YtfihmpkkpgmdhaaGreatDoor
end
