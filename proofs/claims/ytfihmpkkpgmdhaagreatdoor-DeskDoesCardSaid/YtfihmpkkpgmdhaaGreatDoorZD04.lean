/-
  What the proof of DeskDoes leans on: definitions, laws, contracts of functions. No condition besides those that each theorem names.
-/
import Derived.Orders
import Derived.WalkKit
set_option maxRecDepth 100000
set_option maxHeartbeats 16000000
set_option linter.unusedVariables false
set_option linter.unusedSimpArgs false
set_option linter.unnecessarySimpa false
section
namespace Go.Proofs.YtfihmpkkpgmdhaaGreatDoor
open Go
section
variable {P:Program} {ops:Array Oper} {S:World→Prop} {path:List Nat} {Q:Exit→Act→World→Prop}
def loudUpon (P:Program) (K:Value→World→Prop):Result Next→Prop
 | .ok (.value v) w'=>K v w'
 | .ok .skip w'=>K undef w'
 | .ok (.enter f args) w'=>Calls P f args w' fun e w''=>∃ v,e=.returned v∧K v w''
 | _=>False
def Loud (P:Program) (o:Oper) (a:Act) (w:World) (K:Value→World→Prop):Prop:=loudUpon P K ((execOp a.eval o).run P w)
theorem Loud.mono {o:Oper} {a:Act} {w:World} {K K':Value→World→Prop} (h:Loud P o a w K) (hk:∀ v w',K v w'→K' v w'):Loud P o a w K':=by
 unfold Loud at *
 generalize (execOp a.eval o).run P w=r at *
 cases r with
 | ok n w'=>
  cases n<;>simp only [loudUpon] at h ⊢
  case value=>exact hk _ _ h
  case skip=>exact hk _ _ h
  case enter f args=>exact h.mono fun e w'' ⟨v,he,hh⟩=>⟨v,he,hk _ _ hh⟩
 | halt x w'=>exact h
theorem Loud.some {o:Oper} {a:Act} {w:World} {K:Value→World→Prop} (h:Loud P o a w K):∃ v w',K v w':=by
 unfold Loud at *
 generalize (execOp a.eval o).run P w=r at *
 cases r with
 | ok n w'=>
  cases n<;>simp only [loudUpon] at h
  case value=>exact ⟨_,_,h⟩
  case skip=>exact ⟨_,_,h⟩
  case enter f args=>
   obtain ⟨e,w1,fr,⟨v,_,hk⟩,_⟩:=h []
   exact ⟨v,w1,hk⟩
 | halt x w'=>exact h.elim
theorem Loud.wp {o:Oper} {a:Act} {w:World} {K:Value→World→Prop} {K':Act→World→Prop} (h:Loud P o a w K) (hk:∀ v w',K v w'→K' (a.put o.dst v) w'):o.wp P a w K' Q:=by
 unfold Loud at h
 unfold Oper.wp
 generalize (execOp a.eval o).run P w=r at *
 cases r with
 | ok n w'=>
  cases n<;>simp only [loudUpon] at h<;>simp only [Oper.upon]
  case value=>exact hk _ _ h
  case skip=>exact hk _ _ h
  case enter f args=>exact h.mono fun e w'' ⟨v,he,hh⟩=>by subst he;exact hk _ _ hh
 | halt x w'=>exact h.elim
def Yl (P:Program) (ops:Array Oper) (S:World→Prop) (o:Oper) (a:Act) (v:Value):Prop:=
 (Region.wanted o (yielded ops a.tmps)=false∧v=undef)∨(Region.wanted o (yielded ops a.tmps)=true∧∀ w,S w→(execOp a.eval o).run P w=.ok (.value v) w)
theorem Yl.same {o:Oper} {a a':Act} {v:Value} (h:Yl P ops S o a v) (he:execOp a'.eval o=execOp a.eval o) (hw:Region.wanted o (yielded ops a'.tmps)=Region.wanted o (yielded ops a.tmps)):Yl P ops S o a' v:=by
 unfold Yl at *
 rw [he,hw]
 exact h
theorem Yl.unique {o:Oper} {a:Act} {v v':Value} {w:World} (hS:S w) (h:Yl P ops S o a v) (h':Yl P ops S o a v'):v=v':=by
 rcases h with ⟨h1,rfl⟩|⟨h1,h2⟩<;>rcases h' with ⟨h3,rfl⟩|⟨h3,h4⟩
 ·rfl
 ·rw [h1] at h3;cases h3
 ·rw [h1] at h3;cases h3
 ·have:=(h2 w hS).symm.trans (h4 w hS)
  simpa using this
def Lex (P:Program) (ops:Array Oper) (S:World→Prop) (path:List Nat) (Q:Exit→Act→World→Prop):List Nat→Act→World→Prop
 | [],a,w=>Q .normal a w
 | i::rest,a,w=>∃ o,ops[i]? = some o ∧
   ((∃ v,Yl P ops S o a v∧Lex P ops S path Q rest (a.put o.dst v) w) ∨
    (Region.wanted o (yielded ops a.tmps)=true∧i∈path∧Loud P o a w fun v w'=>S w'∧Lex P ops S path Q rest (a.put o.dst v) w'))
theorem Lex.pull {i:Nat} {oi:Oper} {post:List Nat} (hi:ops[i]? = some oi) (hq:i∉path) (hsel:∀ (j:Nat) (o:Oper) cs b,ops[j]? = some o→o.op≠.select cs b) :
  ∀ (pre:List Nat) (a:Act) (w:World),S w→(∀ p∈pre,∀ o,ops[p]? = some o→o.apart ops oi=true)→Lex P ops S path Q (pre++i::post) a w →
   ∃ v,Yl P ops S oi a v∧Lex P ops S path Q (pre++post) (a.put oi.dst v) w
 | [],a,w,_,_,h=>by
  obtain ⟨o,ho,h⟩:=h
  rw [hi] at ho
  obtain rfl:=Option.some.inj ho
  rcases h with h|⟨_,hp,_⟩
  ·exact h
  ·exact absurd hp hq
 | p::pre,a,w,hS,hap,h=>by
  obtain ⟨op,hop,h⟩:=h
  obtain ⟨h1,h2,h3⟩:=Oper.apart_spec (hap p (by simp) op hop)
  have toA:∀ u v,Yl P ops S oi (a.put op.dst u) v→Yl P ops S oi a v:=fun u v hy=>
   hy.same (execOp_put (ops:=ops) oi (fun cs b=>hsel i oi cs b hi) a op.dst u h1).symm (wanted_put oi a op.dst u h1).symm
  rcases h with ⟨u,hu,h⟩|⟨hw,hp,h⟩
  ·obtain ⟨v,hv,hl⟩:=Lex.pull hi hq hsel pre _ w hS (fun q hq'=>hap q (by simp [hq'])) h
   refine ⟨v,toA u v hv,op,hop,.inl ⟨u,hu.same (execOp_put (ops:=ops) op (fun cs b=>hsel p op cs b hop) a oi.dst v h3) (wanted_put op a oi.dst v h3),?_⟩⟩
   rw [←Act.put_comm a u v h2]
   exact hl
  ·obtain ⟨u,w1,hS1,hl1⟩:=h.some
   obtain ⟨v,hv,_⟩:=Lex.pull hi hq hsel pre _ w1 hS1 (fun q hq'=>hap q (by simp [hq'])) hl1
   refine ⟨v,toA u v hv,op,hop,.inr ⟨by rw [wanted_put op a oi.dst v h3];exact hw,hp,?_⟩⟩
   unfold Loud at h ⊢
   rw [execOp_put (ops:=ops) op (fun cs b=>hsel p op cs b hop) a oi.dst v h3]
   refine Loud.mono (o:=op) (a:=a) (w:=w) h fun u' w' ⟨hS',hl'⟩=>⟨hS',?_⟩
   obtain ⟨v',hv',hl''⟩:=Lex.pull hi hq hsel pre _ w' hS' (fun q hq'=>hap q (by simp [hq'])) hl'
   obtain rfl:=Yl.unique hS' (toA u' v' hv') (toA u v hv)
   rw [←Act.put_comm a u' v' h2]
   exact hl''
theorem Lex.pullL {i:Nat} {oi:Oper} {post:List Nat} (hi:ops[i]? = some oi) (hsel:∀ (j:Nat) (o:Oper) cs b,ops[j]? = some o→o.op≠.select cs b) :
  ∀ (pre:List Nat) (a:Act) (w:World),S w→(∀ p∈pre,∀ o,ops[p]? = some o→o.apart ops oi=true)→(∀ p∈pre,p∉path)→Lex P ops S path Q (pre++i::post) a w →
   (∃ v,Yl P ops S oi a v∧Lex P ops S path Q (pre++post) (a.put oi.dst v) w) ∨
   (Region.wanted oi (yielded ops a.tmps)=true∧Loud P oi a w fun v w'=>S w'∧Lex P ops S path Q (pre++post) (a.put oi.dst v) w')
 | [],a,w,_,_,_,h=>by
  obtain ⟨o,ho,h⟩:=h
  rw [hi] at ho
  obtain rfl:=Option.some.inj ho
  rcases h with h|⟨hw,_,h⟩
  ·exact .inl h
  ·exact .inr ⟨hw,h⟩
 | p::pre,a,w,hS,hap,hno,h=>by
  obtain ⟨op,hop,h⟩:=h
  obtain ⟨h1,h2,h3⟩:=Oper.apart_spec (hap p (by simp) op hop)
  rcases h with ⟨u,hu,h⟩|⟨_,hp,_⟩
  case inr=>exact absurd hp (hno p (by simp))
  have he:=execOp_put (ops:=ops) oi (fun cs b=>hsel i oi cs b hi) a op.dst u h1
  have hwp:=wanted_put (ops:=ops) oi a op.dst u h1
  have hu':∀ v,Yl P ops S op (a.put oi.dst v) u:=fun v=>hu.same (execOp_put (ops:=ops) op (fun cs b=>hsel p op cs b hop) a oi.dst v h3) (wanted_put op a oi.dst v h3)
  rcases Lex.pullL hi hsel pre _ w hS (fun q hq'=>hap q (by simp [hq'])) (fun q hq'=>hno q (by simp [hq'])) h with ⟨v,hv,hl⟩|⟨hw,hl⟩
  ·refine .inl ⟨v,hv.same he.symm hwp.symm,op,hop,.inl ⟨u,hu' v,?_⟩⟩
   rw [←Act.put_comm a u v h2]
   exact hl
  ·refine .inr ⟨by rw [←hwp];exact hw,?_⟩
   unfold Loud at hl ⊢
   rw [he] at hl
   refine Loud.mono (o:=oi) (a:=a) (w:=w) hl fun v w' ⟨hS',hl'⟩=>⟨hS',op,hop,.inl ⟨u,hu' v,?_⟩⟩
   rw [←Act.put_comm a u v h2]
   exact hl'
def hasEdge (ops:Array Oper) (j i:Nat):Bool:=match ops[j]? with|some o=>o.after.any fun e=>Region.binds .any e&&e.on==i|none=>false
def lexOk (ops:Array Oper) (path:List Nat):Bool:=
 Region.noSelect ops &&
 ((List.range ops.size).all fun j=>match ops[j]? with
  | some oj=>oj.after.all (fun e => !Region.binds .any e || decide (e.on<j))&&(List.range j).all fun i=>hasEdge ops j i || match ops[i]? with|some oi=>oi.apart ops oj|none=>true
  | none=>true) &&
 path.all fun x=>path.all fun y => !decide (y<x) || path.any fun z=>decide (y≤z)&&decide (z<x)&&hasEdge ops x z
theorem hasEdge_iff {j i:Nat}:hasEdge ops j i=true↔∃ o,ops[j]? = some o∧∃ e∈o.after,Region.binds .any e=true∧e.on=i:=by
 unfold hasEdge
 cases h:ops[j]? with
 | none=>simp
 | some o=>
  simp only [Array.any_eq_true,Bool.and_eq_true,beq_iff_eq,Option.some.injEq,exists_eq_left']
  constructor
  ·rintro ⟨k,hk,h1⟩
   exact ⟨_,Array.getElem_mem hk,h1⟩
  ·rintro ⟨e,he,h1⟩
   obtain ⟨k,hk,rfl⟩:=Array.mem_iff_getElem.1 he
   exact ⟨k,hk,h1⟩
def Closed (ops:Array Oper) (listed:Array Bool):Prop := ∀ j o,ops[j]? = some o→listed.getD j false=true→∀ e∈o.after,Region.binds .any e=true→listed.getD e.on false=true
theorem path_listed {listed:Array Bool} (hp:(path.all fun x=>path.all fun y => !decide (y<x) || path.any fun z=>decide (y≤z)&&decide (z<x)&&hasEdge ops x z)=true) (hc:Closed ops listed) :
  ∀ (x:Nat),x∈path→(∀ o,ops[x]? = some o→∀ e∈o.after,Region.binds .any e=true→listed.getD e.on false=true)→∀ y∈path,y<x→listed.getD y false=true:=by
 intro x
 induction x using Nat.strongRecOn with
 | _ x ih=>
  intro hx hr y hy hyx
  have h:=List.all_eq_true.1 (List.all_eq_true.1 hp x hx) y hy
  simp only [hyx,decide_true,Bool.not_true,Bool.false_or,List.any_eq_true,Bool.and_eq_true,decide_eq_true_eq] at h
  obtain ⟨z,hz,⟨hyz,hzx⟩,he⟩:=h
  obtain ⟨o,ho,e,hem,heb,rfl⟩:=hasEdge_iff.1 he
  have hl:=hr o ho e hem heb
  by_cases hyz':y=e.on
  ·rw [hyz'];exact hl
  ·exact ih e.on hzx hz (fun o' ho'=>hc e.on o' ho' hl) y hy (by omega)
theorem wpAny_of_lex (hok:lexOk ops path=true):∀ (n:Nat) (rem:List Nat) (listed:Array Bool) (a:Act) (w:World),rem.length=n→rem.Pairwise (· < ·)→listed.size=ops.size →
  (∀ k,k∈rem↔k<ops.size∧listed.getD k true=false)→Closed ops listed→S w→Lex P ops S path Q rem a w→wpAny P .any ops Q n listed a w:=by
 have hok':=hok
 simp only [lexOk,Bool.and_eq_true] at hok'
 obtain ⟨⟨hns,hall⟩,hpath⟩:=hok'
 have hsel:=fun (j:Nat) (o:Oper) cs b=>Region.noSelect_spec hns j o cs b
 intro n
 induction n with
 | zero=>
  intro rem listed a w hn _ _ hrem _ _ h
  obtain rfl:=List.eq_nil_of_length_eq_zero hn
  refine ⟨?_,h⟩
  refine List.eq_nil_iff_forall_not_mem.2 fun i hi=>?_
  obtain ⟨h0,o,ho,_⟩:=mem_ready.1 hi
  have:=(hrem i).2 ⟨(Array.getElem?_eq_some_iff.1 ho).1,h0⟩
  cases this
 | succ n ih=>
  intro rem listed a w hn hpw hsz hrem hcl hS h
  have hedge:∀ j oj,ops[j]? = some oj→(∀ e∈oj.after,Region.binds .any e=true→e.on<j)∧∀ i,i<j→hasEdge ops j i=true∨∀ oi,ops[i]? = some oi→oi.apart ops oj=true:=by
   intro j oj hj
   have h1:=List.all_eq_true.1 hall j (List.mem_range.2 (Array.getElem?_eq_some_iff.1 hj).1)
   simp only [hj,Bool.and_eq_true] at h1
   refine ⟨fun e he hb=>?_,fun i hij=>?_⟩
   ·have:=Array.all_eq_true_iff_forall_mem.1 h1.1 e he
    simpa [hb] using this
   ·have:=List.all_eq_true.1 h1.2 i (List.mem_range.2 hij)
    simp only [Bool.or_eq_true] at this
    refine this.imp id fun h2 oi hoi=>?_
    simpa [hoi] using h2
  refine ⟨fun hr0=>?_,fun i hi=>?_⟩
  ·
   exfalso
   match rem,hn,hpw,hrem with
   | m::rest,_,hpw,hrem=>
    have hm:=(hrem m).1 (by simp)
    obtain ⟨om,hom⟩:∃ o,ops[m]? = some o:=⟨_,Array.getElem?_eq_getElem hm.1⟩
    have:m∈Region.ready .any ops listed:=mem_ready.2 ⟨hm.2,om,hom,fun e he hb=>by
     have hlt:=(hedge m om hom).1 e he hb
     have hno:e.on∉m::rest:=by
      intro hmem
      rcases List.mem_cons.1 hmem with h1|h1
      ·omega
      ·have:=(List.pairwise_cons.1 hpw).1 _ h1;omega
     have hlt2:e.on<listed.size:=by omega
     have hg:¬ listed.getD e.on true=false:=fun hf=>hno ((hrem e.on).2 ⟨by omega,hf⟩)
     simp [hlt2] at hg ⊢
     exact hg⟩
    rw [hr0] at this
    cases this
  ·obtain ⟨h0,oi,hoi,hall'⟩:=mem_ready.1 hi
   have hilt:=(Array.getElem?_eq_some_iff.1 hoi).1
   have him:=(hrem i).2 ⟨hilt,h0⟩
   obtain ⟨pre,post,rfl⟩:=List.append_of_mem him
   have hpre:∀ p∈pre,p<i:=fun p hp=>(List.pairwise_append.1 hpw).2.2 p hp i (by simp)
   have hun:∀ p∈pre,listed.getD p false=false:=fun p hp=>by
    have:=(hrem p).1 (by simp [hp])
    have hlt2:p<listed.size:=by omega
    simpa [hlt2] using this.2
   have hap:∀ p∈pre,∀ o,ops[p]? = some o→o.apart ops oi=true:=fun p hp o ho=>by
    rcases (hedge i oi hoi).2 p (hpre p hp) with h1|h1
    ·obtain ⟨o',ho',e,he,hb,heq⟩:=hasEdge_iff.1 h1
     rw [hoi] at ho'
     obtain rfl:=Option.some.inj ho'
     have:=hall' e he hb
     rw [heq,hun p hp] at this
     cases this
    ·exact h1 o ho
   have hne:∀ k,k∈pre++post→k≠i:=fun k hk hki=>by
    subst hki
    rcases List.mem_append.1 hk with h1|h1
    ·exact Nat.lt_irrefl _ (hpre _ h1)
    ·have:=(List.pairwise_cons.1 (List.pairwise_append.1 hpw).2.1).1 _ h1;omega
   have next:∀ a' w',S w'→Lex P ops S path Q (pre++post) a' w'→wpAny P .any ops Q n (listed.setIfInBounds i true) a' w':=fun a' w' hS' hl=>by
    refine ih (pre++post) _ a' w' (by simp at hn ⊢;omega) ?_ (by simpa using hsz) (fun k=>?_) ?_ hS' hl
    ·refine List.Pairwise.sublist ?_ hpw
     exact List.Sublist.append (List.Sublist.refl _) (List.sublist_cons_self _ _)
    ·by_cases hk:k=i
     ·subst hk
      constructor
      ·intro hm;exact absurd rfl (hne _ hm)
      ·intro hm
       have hlt2:k<listed.size:=by omega
       simp [hlt2] at hm
     ·rw [getD_set_ne true (Ne.symm hk),←hrem k]
      simp [hk]
    ·intro j o ho hj e he hb
     refine getD_set_true ?_
     by_cases hji:i=j
     ·subst hji
      rw [hoi] at ho
      obtain rfl:=Option.some.inj ho
      exact hall' e he hb
     ·rw [getD_set_ne false hji] at hj
      exact hcl j o ho hj e he hb
   have fin:∀ v,Yl P ops S oi a v→Lex P ops S path Q (pre++post) (a.put oi.dst v) w→wpOp P ops Q i (wpAny P .any ops Q n (listed.setIfInBounds i true)) a w:=fun v hv hl=>by
    unfold wpOp
    simp only [hoi]
    rcases hv with ⟨hw,rfl⟩|⟨hw,hv⟩
    ·simp only [hw,Bool.false_eq_true,if_false]
     exact next _ _ hS hl
    ·simp only [hw,if_true]
     refine .inl ?_
     unfold Oper.wp
     rw [hv w hS]
     exact next _ _ hS hl
   by_cases hip:i∈path
   ·have hnp:∀ p∈pre,p∉path:=fun p hp hpp=>by
     have:=path_listed hpath hcl i hip (fun o ho=>by
      rw [hoi] at ho
      obtain rfl:=Option.some.inj ho
      exact hall') p hpp (hpre p hp)
     rw [hun p hp] at this
     cases this
    rcases Lex.pullL hoi hsel pre a w hS hap hnp h with ⟨v,hv,hl⟩|⟨hw,hl⟩
    ·exact fin v hv hl
    ·unfold wpOp
     simp only [hoi,hw,if_true]
     exact .inl (hl.wp fun v w' ⟨hS',hl'⟩=>next _ _ hS' hl')
   ·obtain ⟨v,hv,hl⟩:=Lex.pull hoi hip hsel pre a w hS hap h
    exact fin v hv hl
theorem wp_region_text {id:Nat} {a:Act} {w:World} (S:World→Prop) (path:List Nat) (rem:List Nat) (hm:P.follows .mixedOrders=true) (hok:lexOk ops path=true) (hr:List.range ops.size=rem) (hS:S w.drew)
  (h:Lex P ops S path Q rem a w.drew):(Code.region id ops true).wp P Q a w:=by
 refine wp_region_any hm ?_
 subst hr
 refine wpAny_of_lex (S:=S) hok ops.size (List.range ops.size) _ a _ (by simp) List.pairwise_lt_range (by simp) (fun k=>?_) ?_ hS h
 ·by_cases hk:k<ops.size<;>simp [hk]
 ·intro j o _ hj
  by_cases hlt:j<ops.size<;>simp [hlt] at hj
def LexL (P:Program) (ops:Array Oper) (S:World→Prop) (path:List Nat) (Q:Exit→Act→World→Prop):Nat→List Oper→Act→World→Prop
 | _,[],a,w=>Q .normal a w
 | i,o::rest,a,w=>
   (∃ v,Yl P ops S o a v∧LexL P ops S path Q (i+1) rest (a.put o.dst v) w) ∨
   (Region.wanted o (yielded ops a.tmps)=true∧i∈path∧Loud P o a w fun v w'=>S w'∧LexL P ops S path Q (i+1) rest (a.put o.dst v) w')
theorem Lex.of_list:∀ (l:List Oper) (i:Nat) (a:Act) (w:World),(∀ k o,l[k]? = some o→ops[i+k]? = some o)→LexL P ops S path Q i l a w→Lex P ops S path Q (List.range' i l.length) a w
 | [],_,_,_,_,h=>h
 | o::l,i,a,w,hl,h=>by
  have hl':∀ k o,l[k]? = some o→ops[i+1+k]? = some o:=fun k o hk=>by
   have:=hl (k+1) o hk
   rwa [show i+(k+1)=i+1+k by omega] at this
  refine ⟨o,hl 0 o rfl,?_⟩
  rcases h with ⟨v,hv,h⟩|⟨hw,hp,h⟩
  ·exact .inl ⟨v,hv,Lex.of_list l (i+1) _ _ hl' h⟩
  ·exact .inr ⟨hw,hp,h.mono fun v w' ⟨h1,h2⟩=>⟨h1,Lex.of_list l (i+1) _ _ hl' h2⟩⟩
theorem wp_region_lex {l:List Oper} {id:Nat} {a:Act} {w:World} (S:World→Prop) (path:List Nat) (hm:P.follows .mixedOrders=true) (hok:lexOk l.toArray path=true) (hS:S w.drew)
  (h:LexL P l.toArray S path Q 0 l a w.drew):(Code.region id l.toArray true).wp P Q a w:=by
 refine wp_region_text S path _ hm hok rfl hS ?_
 have h1:=Lex.of_list (ops:=l.toArray) l 0 a w.drew (fun k o hk=>by simpa using hk) h
 simpa [List.range_eq_range'] using h1
variable {o:Oper} {i:Nat} {rest:List Oper} {a:Act} {w:World}
theorem LexL.still {v:Value} (hw:Region.wanted o (yielded ops a.tmps)=true) (hv:∀ w,S w→(execOp a.eval o).run P w=.ok (.value v) w)
  (h:LexL P ops S path Q (i+1) rest (a.put o.dst v) w):LexL P ops S path Q i (o::rest) a w:=.inl ⟨v,.inr ⟨hw,hv⟩,h⟩
theorem LexL.none (hw:Region.wanted o (yielded ops a.tmps)=false)
  (h:LexL P ops S path Q (i+1) rest (a.put o.dst undef) w):LexL P ops S path Q i (o::rest) a w:=.inl ⟨undef,.inl ⟨hw,rfl⟩,h⟩
theorem LexL.call {w1:World} {f:FuncId} {args:Array Value} (hw:Region.wanted o (yielded ops a.tmps)=true) (hi:i∈path) (he:(execOp a.eval o).run P w=.ok (.enter f args) w1)
  (h:Calls P f args w1 fun e w'=>∃ v,e=.returned v∧S w'∧LexL P ops S path Q (i+1) rest (a.put o.dst v) w'):LexL P ops S path Q i (o::rest) a w:=
 .inr ⟨hw,hi,by unfold Loud;rw [he];exact h⟩
theorem LexL.value {w1:World} {v:Value} (hw:Region.wanted o (yielded ops a.tmps)=true) (hi:i∈path) (he:(execOp a.eval o).run P w=.ok (.value v) w1)
  (hS:S w1) (h:LexL P ops S path Q (i+1) rest (a.put o.dst v) w1):LexL P ops S path Q i (o::rest) a w:=
 .inr ⟨hw,hi,by unfold Loud;rw [he];exact ⟨hS,h⟩⟩
theorem LexL.store {w1:World} (hw:Region.wanted o (yielded ops a.tmps)=true) (hi:i∈path) (he:(execOp a.eval o).run P w=.ok .skip w1)
  (hS:S w1) (h:LexL P ops S path Q (i+1) rest (a.put o.dst undef) w1):LexL P ops S path Q i (o::rest) a w:=
 .inr ⟨hw,hi,by unfold Loud;rw [he];exact ⟨hS,h⟩⟩
theorem LexL.done (h:Q .normal a w):LexL P ops S path Q i [] a w:=h
end
end Go.Proofs.YtfihmpkkpgmdhaaGreatDoor
end
