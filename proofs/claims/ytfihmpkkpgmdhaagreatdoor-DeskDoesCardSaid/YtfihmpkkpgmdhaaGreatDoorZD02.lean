/-
  What the proof of DeskDoes leans on: definitions, laws, contracts of functions. No condition besides those that each theorem names.
-/
import Derived.Test.YtfihmpkkpgmdhaaGreatDoorProg
import Derived.Test.YtfihmpkkpgmdhaaGreatDoorZD01
import Derived.WalkKit
import Derived.WalkLawsBesides
import Derived.WalkSpells
import Derived.Lib.Hide
import Derived.Deep.QuietTactic
import Derived.BigQuiet
set_option maxRecDepth 100000
set_option maxHeartbeats 16000000
set_option linter.unusedVariables false
set_option linter.unusedSimpArgs false
set_option linter.unnecessarySimpa false
section
namespace Go.Proofs.YtfihmpkkpgmdhaaGreatDoor
open Go.Value renaming int → zI
open Go.IntKind renaming i64 → zi
open Go.RowKit
def jcells (j:Job):List Value:=[zI zi j.st,zI zi j.wk,zI zi j.tr,zI zi j.un]
def tcells (t:Tbl):List Value:=jcells (t.jobs 0)++(jcells (t.jobs 1)++(jcells (t.jobs 2)++(jcells (t.jobs 3)++(jcells (t.jobs 4)++(jcells (t.jobs 5)++[zI zi t.now])))))
def Job.val (j:Job):Value:=.agg (jcells j).toArray
def Ans.val (a:Ans):Value:=.agg #[zI zi a.code,zI zi a.job,zI zi a.tr]
def BlockAt (w:World) (b:Nat) (ty:TypeId) (cs:List Value):Prop:=w.heap[b]? = some (.cells cs.toArray ty (0,0))
def TableAt (w:World) (b:Nat) (t:Tbl):Prop:=BlockAt w b 146 (tcells t)
theorem BlockAt.lt {w:World} {b:Nat} {ty:TypeId} {cs:List Value} (h:BlockAt w b ty cs):b<w.heap.size:=
 (Array.getElem?_eq_some_iff.1 h).1
theorem BlockAt.cell {w:World} {b:Nat} {ty:TypeId} {cs:List Value} (h:BlockAt w b ty cs) (o:Nat) (v:Value) (hv:cs[o]? = some v):w.cell? ⟨b,o,none⟩=some v:=by
 unfold BlockAt at h
 simp [World.cell?,h,hv]
theorem BlockAt.free {w:World} {b:Nat} {ty:TypeId} {cs:List Value} (h:BlockAt w b ty cs) (o:Nat):w.frozen? ⟨b,o,none⟩=false:=by
 unfold BlockAt at h
 simp [World.frozen?,h]
theorem BlockAt.set {w:World} {b:Nat} {ty:TypeId} {cs:List Value} (h:BlockAt w b ty cs) (o:Nat) (v:Value):BlockAt (w.setCell ⟨b,o,none⟩ v) b ty (cs.set o v):=by
 unfold BlockAt at *
 simp only [World.setCell,Array.getElem?_modify,if_true,h]
 simp
theorem BlockAt.other {w w':World} {b:Nat} {ty:TypeId} {cs:List Value} {row:Option Nat} (h:BlockAt w b ty cs) (hg:w.grownBy w' row) (hne:some b≠row):BlockAt w' b ty cs:=by
 have hb:=hg.block b h.lt hne
 unfold BlockAt at *
 rw [hb];exact h
theorem BlockAt.new (w:World) (ty:TypeId) (cs:List Value):BlockAt (w.alloc (.cells cs.toArray ty)) w.heap.size ty cs:=heap_alloc_new w _
theorem BlockAt.ne {w:World} {b b':Nat} {ty ty':TypeId} {cs cs':List Value} (h:BlockAt w b ty cs) (h':BlockAt w b' ty' cs') (hne:ty≠ty'):b≠b':=by
 rintro rfl
 unfold BlockAt at *
 rw [h] at h'
 simp at h'
 exact hne h'.2
theorem tcells_job (t:Tbl) (i:Nat) (hi:i<6):(tcells t)[4*i]? = some (zI zi (t.jobs i).st)∧(tcells t)[4*i+1]? = some (zI zi (t.jobs i).wk)∧(tcells t)[4*i+2]? = some (zI zi (t.jobs i).tr)∧(tcells t)[4*i+3]? = some (zI zi (t.jobs i).un):=by
 match i,hi with
 | 0,_|1,_|2,_|3,_|4,_|5,_=>exact ⟨rfl,rfl,rfl,rfl⟩
theorem tcells_set (t:Tbl) (i:Nat) (hi:i<6) (j:Job):((((tcells t).set (4*i) (zI zi j.st)).set (4*i+1) (zI zi j.wk)).set (4*i+2) (zI zi j.tr)).set (4*i+3) (zI zi j.un)=tcells (t.set i j):=by
 match i,hi with
 | 0,_|1,_|2,_|3,_|4,_|5,_=>rfl
theorem TableAt.job {w:World} {b:Nat} {t:Tbl} (h:TableAt w b t) {k:Nat} (hk:k<6) :
  w.cell? ⟨b,k*4,none⟩=some (zI zi (t.jobs k).st)∧w.cell? ⟨b,k*4+1,none⟩=some (zI zi (t.jobs k).wk) ∧
  w.cell? ⟨b,k*4+2,none⟩=some (zI zi (t.jobs k).tr)∧w.cell? ⟨b,k*4+3,none⟩=some (zI zi (t.jobs k).un):=by
 rw [Nat.mul_comm]
 obtain ⟨a,b,c,d⟩:=tcells_job t k hk
 exact ⟨h.cell _ _ a,h.cell _ _ b,h.cell _ _ c,h.cell _ _ d⟩
theorem TableAt.setJob {w:World} {b:Nat} {t:Tbl} (h:TableAt w b t) {k:Nat} (hk:k<6) (j:Job) :
  TableAt ((((w.setCell ⟨b,k*4,none⟩ (zI zi j.st)).setCell ⟨b,k*4+1,none⟩ (zI zi j.wk)).setCell ⟨b,k*4+2,none⟩ (zI zi j.tr)).setCell ⟨b,k*4+3,none⟩ (zI zi j.un)) b (t.set k j):=by
 unfold TableAt
 rw [←tcells_set t k hk j,Nat.mul_comm k 4]
 exact (((BlockAt.set h _ _).set _ _).set _ _).set _ _
theorem grown_setCell {a w:World} {g:Nat} (h:a.grownBy w (some g)) (o:Nat) (u:Value):a.grownBy (w.setCell ⟨g,o,none⟩ u) (some g):=
 ⟨h.os,h.tape,h.output,by simpa [World.setCell] using h.size,fun i hi hne=>(Below.heap_setCell w _ u i (by
  rintro rfl
  exact hne rfl)).trans (h.block i hi hne)⟩
theorem grown_refl (w:World) (r:Option Nat):w.grownBy w r:=⟨rfl,rfl,rfl,Nat.le_refl _,fun _ _ _=>rfl⟩
theorem grown_drewN {a w:World} {r:Option Nat} (h:a.grownBy w r) (n:Nat):a.grownBy (w.drewN n) r:=⟨h.os,h.tape,h.output,h.size,h.block⟩
theorem grown_drew {a w:World} {r:Option Nat} (h:a.grownBy w r):a.grownBy w.drew r:=⟨h.os,h.tape,h.output,h.size,h.block⟩
theorem grown_alloc {a w:World} {r:Option Nat} (h:a.grownBy w r) (o:Obj):a.grownBy (w.alloc o) r:=
 ⟨h.os,h.tape,h.output,Nat.le_trans h.size (by simp),fun i hi hne=>(Below.heap_alloc w o i (Nat.lt_of_lt_of_le hi h.size)).trans (h.block i hi hne)⟩
theorem BlockAt.drewN {w:World} {b:Nat} {ty:TypeId} {cs:List Value} (h:BlockAt w b ty cs) (n:Nat):BlockAt (w.drewN n) b ty cs:=h
theorem BlockAt.drew {w:World} {b:Nat} {ty:TypeId} {cs:List Value} (h:BlockAt w b ty cs):BlockAt w.drew b ty cs:=h
theorem BlockAt.alloc {w:World} {b:Nat} {ty:TypeId} {cs:List Value} (h:BlockAt w b ty cs) (o:Obj):BlockAt (w.alloc o) b ty cs:=
 h.other (grown_alloc (grown_refl w none) o) (by simp)
theorem tcells_congr {t u:Tbl} (hj:∀ i,i<6→t.jobs i=u.jobs i) (hn:t.now=u.now):tcells t=tcells u:=by
 unfold tcells
 rw [hj 0 (by omega),hj 1 (by omega),hj 2 (by omega),hj 3 (by omega),hj 4 (by omega),hj 5 (by omega),hn]
theorem TableAt.congr {w:World} {b:Nat} {t u:Tbl} (h:TableAt w b t) (hj:∀ i,i<6→t.jobs i=u.jobs i) (hn:t.now=u.now):TableAt w b u:=by
 unfold TableAt at *
 rwa [←tcells_congr hj hn]
def Ones (cs:List Value):Prop := ∀ v∈cs,v.oneCell'=true
theorem BlockAt.setRow {w:World} {g:Nat} {t:TypeId} {cs:List Value} (h:BlockAt w g t cs) (cs':List Value):BlockAt (w.setRow g cs'.toArray) g t cs':=setRow_heap w g cs.toArray _ t _ h
theorem grown_setRow {a w:World} {g:Nat} (h:a.grownBy w (some g)) (cs:Array Value):a.grownBy (w.setRow g cs) (some g):=
 ⟨h.os,h.tape,h.output,by simpa using h.size,fun i hi hne=>(setRow_other w g i cs (fun e=>hne (by rw [e]))).trans (h.block i hi hne)⟩
section
variable {P:Program}
theorem run_load_part {w:World} {g off:Nat} {t ty:TypeId} {cs vs:List Value} {d:TypeDesc} (hb:BlockAt w g t cs) (hvs:(cs.drop off).take vs.length=vs)
  (hu:P.underlying ty=some d) (hd:(match d with | .struct _ | .array _ _=>true|_=>false)=true) (hi:(P.info? ty).map (·.size)=some vs.length) :
  (loadVar ty ⟨g,off,none⟩).run P w=.ok (.agg vs.toArray) w:=by
 have hl:(loadCells ⟨g,off,none⟩ vs.length).run P w=.ok vs.toArray w:=
  run_loadCells_list (P:=P) w ⟨g,off,none⟩ vs (fun j v hv=>by
   have hadd:(⟨g,off,none⟩:Addr).add j=⟨g,off+j,none⟩:=by unfold Addr.add;split<;>simp_all
   rw [hadd]
   refine hb.cell _ _ ?_
   rw [←hvs,List.getElem?_take] at hv
   split at hv
   ·rwa [List.getElem?_drop] at hv
   ·cases hv)
 cases hq:P.info? ty with
 | none=>simp [hq] at hi
 | some i=>
  have hs:i.size=vs.length:=by simpa [hq] using hi
  have hagg:(isAgg ty).run P w=.ok true w:=by
   unfold isAgg
   rw [Sem.run_bind,run_underlying hu w]
   cases d<;>simp_all
  simp [loadVar,Sem.run_bind,hagg,sizeOf,typeInfo,hq,hs,hl]
theorem wpList_load_part {ops:Array Oper} {rest:List Oper} {o:Oper} {a:Act} {w:World} {Q:Exit→Act→World→Prop} (hgd:o.guard=none) (ty:TypeId) (x:Operand) (ho:o.op=.load ty x)
  (g off:Nat) (hx:a.eval x=.pointer (some ⟨g,off,none⟩)) {t:TypeId} {cs:List Value} (vs:List Value) {d:TypeDesc} (hb:BlockAt w g t cs) (hvs:(cs.drop off).take vs.length=vs)
  (hu:P.underlying ty=some d) (hd:(match d with | .struct _ | .array _ _=>true|_=>false)=true) (hi:(P.info? ty).map (·.size)=some vs.length)
  (h:wpList P ops Q rest (a.put o.dst (.agg vs.toArray)) w):wpList P ops Q (o::rest) a w:=
 wpList_plain hgd fun _ hK=>by
  unfold Oper.wp execOp
  simp only [ho,hx,Instr.loadAt,Instr.sureAddr,Sem.run_bind,Sem.run_pure,Result.andThen_ok,run_load_part hb hvs hu hd hi]
  exact hK _ _ h
theorem run_store_part {w:World} {g off:Nat} {t ty:TypeId} {cs vs:List Value} (hb:BlockAt w g t cs) (hfit:off+vs.length≤cs.length)
  (hi:(P.info? ty).map (·.size)=some vs.length) (h1:Ones vs) :
  (storeVar ty ⟨g,off,none⟩ (.agg vs.toArray)).run P w=.ok () (w.setRow g (cs.take off++vs++cs.drop (off+vs.length)).toArray):=by
 have hst:=run_storeCells_at P g off t vs 0 cs.toArray w hb (by simpa using hfit) h1
 cases hq:P.info? ty with
 | none=>simp [hq] at hi
 | some i=>
  have hs:vs.length=i.size:=by simp [hq] at hi;omega
  simp only [Nat.add_zero] at hst
  simp [storeVar,sizeOf,typeInfo,hq,Value.cells,hs]
  simpa [hs] using hst
theorem wpList_store_part {ops:Array Oper} {rest:List Oper} {o:Oper} {a:Act} {w:World} {Q:Exit→Act→World→Prop} (hgd:o.guard=none) (ty:TypeId) (x y:Operand) (ho:o.op=.store ty x y)
  (g off:Nat) (vs:List Value) (hx:a.eval x=.pointer (some ⟨g,off,none⟩)) (hy:a.eval y=.agg vs.toArray) {t:TypeId} {cs:List Value} (hb:BlockAt w g t cs) (hfit:off+vs.length≤cs.length)
  (hi:(P.info? ty).map (·.size)=some vs.length) (h1:Ones vs)
  (h:∀ w',BlockAt w' g t (cs.take off++vs++cs.drop (off+vs.length))→w.grownBy w' (some g)→w'.heap.size=w.heap.size→wpList P ops Q rest (a.put o.dst undef) w'):wpList P ops Q (o::rest) a w:=
 wpList_plain hgd fun _ hK=>by
  unfold Oper.wp execOp
  simp only [ho,hx,hy,Instr.storeAt,Instr.sureAddr,Sem.run_bind,Sem.run_pure,Result.andThen_ok,run_store_part hb hfit hi h1]
  exact hK _ _ (h _ (hb.setRow _) (grown_setRow (grown_refl w _) _) (by simp))
theorem wpList_load_whole {ops:Array Oper} {rest:List Oper} {o:Oper} {a:Act} {w:World} {Q:Exit→Act→World→Prop} (hgd:o.guard=none) (ty:TypeId) (x:Operand) (ho:o.op=.load ty x)
  (g:Nat) (hx:a.eval x=.pointer (some ⟨g,0,none⟩)) {t:TypeId} (vs:List Value) {d:TypeDesc} (hb:BlockAt w g t vs)
  (hu:P.underlying ty=some d) (hd:(match d with | .struct _ | .array _ _=>true|_=>false)=true) (hi:(P.info? ty).map (·.size)=some vs.length)
  (h:wpList P ops Q rest (a.put o.dst (.agg vs.toArray)) w):wpList P ops Q (o::rest) a w:=
 wpList_load_part hgd ty x ho g 0 hx vs hb (by simp) hu hd hi h
theorem wpList_store_whole {ops:Array Oper} {rest:List Oper} {o:Oper} {a:Act} {w:World} {Q:Exit→Act→World→Prop} (hgd:o.guard=none) (ty:TypeId) (x y:Operand) (ho:o.op=.store ty x y)
  (g:Nat) (vs:List Value) (hx:a.eval x=.pointer (some ⟨g,0,none⟩)) (hy:a.eval y=.agg vs.toArray) {t:TypeId} {cs:List Value} (hb:BlockAt w g t cs) (hfit:vs.length=cs.length)
  (hi:(P.info? ty).map (·.size)=some vs.length) (h1:Ones vs)
  (h:∀ w',BlockAt w' g t vs→w.grownBy w' (some g)→w'.heap.size=w.heap.size→wpList P ops Q rest (a.put o.dst undef) w'):wpList P ops Q (o::rest) a w:=
 wpList_store_part hgd ty x y ho g 0 vs hx hy hb (by omega) hi h1 fun w' h2 h3 h4=>h w' (by simpa [hfit] using h2) h3 h4
end
theorem tcells_len (t:Tbl):(tcells t).length=25:=rfl
theorem tcells_ones (t:Tbl):Ones (tcells t):=by
 intro v hv
 simp only [tcells,jcells,List.cons_append,List.nil_append,List.mem_cons,List.not_mem_nil,or_false] at hv
 rcases hv with h|h|h|h|h|h|h|h|h|h|h|h|h|h|h|h|h|h|h|h|h|h|h|h|h<;>subst h<;>rfl
theorem BlockAt.cells {w:World} {b:Nat} {ty:TypeId} {cs:List Value} (h:BlockAt w b ty cs):∀ o,w.cell? ⟨b,o,none⟩=cs[o]? := by
 intro o
 unfold BlockAt at h
 simp [World.cell?,h]
theorem BlockAt.frees {w:World} {b:Nat} {ty:TypeId} {cs:List Value} (h:BlockAt w b ty cs):∀ o,w.frozen? ⟨b,o,none⟩=false:=fun o=>h.free o
theorem BlockAt.setOther {w:World} {b:Nat} {ty:TypeId} {cs:List Value} (h:BlockAt w b ty cs) {p:Addr} (hp:b≠p.block) (u:Value):BlockAt (w.setCell p u) b ty cs:=by
 unfold BlockAt at *
 rw [Below.heap_setCell _ _ _ _ hp]
 exact h
theorem BlockAt.below {w w':World} {b B:Nat} {ty:TypeId} {cs:List Value} (h:BlockAt w b ty cs) (hg:Below B w w') (hb:b<B):BlockAt w' b ty cs:=by
 unfold BlockAt at *
 rw [hg.block b hb];exact h
theorem grown_setNew {a w:World} {r:Option Nat} (h:a.grownBy w r) {p:Addr} (hp:a.heap.size≤p.block) (u:Value):a.grownBy (w.setCell p u) r:=
 ⟨h.os,h.tape,h.output,by simpa [World.setCell] using h.size,fun i hi hne=>(Below.heap_setCell w p u i (by omega)).trans (h.block i hi hne)⟩
theorem below_grown {w w':World} (h:Below w.heap.size w w') (r:Option Nat):w.grownBy w' r:=⟨h.os,h.tape,h.output,h.size,fun i hi _=>h.block i hi⟩
theorem grown_then {a b c:World} {r r':Option Nat} (h:a.grownBy b r) (k:b.grownBy c r') (hr:r'=r∨∃ x,r'=some x∧a.heap.size≤x):a.grownBy c r:=
 ⟨k.os.trans h.os,k.tape.trans h.tape,k.output.trans h.output,Nat.le_trans h.size k.size,fun i hi hne=>(k.block i (Nat.lt_of_lt_of_le hi h.size) (by
  rcases hr with rfl|⟨x,rfl,hx⟩
  ·exact hne
  ·simp;omega)).trans (h.block i hi hne)⟩
theorem tcells_setSt (t:Tbl) (i:Nat) (hi:i<6) (hz:t.jobs i=Job.zero):(tcells t).set (4*i) (zI zi 1)=tcells (t.set i ⟨1,0,0,0⟩):=by
 match i,hi,hz with
 | 0,_,hz|1,_,hz|2,_,hz|3,_,hz|4,_,hz|5,_,hz=>simp [tcells,jcells,Tbl.set,hz,Job.zero]
theorem tcells_setUn (t:Tbl) (i:Nat) (hi:i<6) (u:Int):(tcells t).set (4*i+3) (zI zi u)=tcells (t.set i { t.jobs i with un:=u }):=by
 match i,hi with
 | 0,_|1,_|2,_|3,_|4,_|5,_=>rfl
theorem TableAt.setSt {w:World} {b:Nat} {t:Tbl} (h:TableAt w b t) {k:Nat} (hk:k<6) (hz:t.jobs k=Job.zero):TableAt (w.setCell ⟨b,k*4,none⟩ (zI zi 1)) b (t.set k ⟨1,0,0,0⟩):=by
 unfold TableAt
 rw [←tcells_setSt t k hk hz,Nat.mul_comm k 4]
 exact BlockAt.set h _ _
theorem TableAt.setUn {w:World} {b:Nat} {t:Tbl} (h:TableAt w b t) {k:Nat} (hk:k<6) (u:Int):TableAt (w.setCell ⟨b,k*4+3,none⟩ (zI zi u)) b (t.set k { t.jobs k with un:=u }):=by
 unfold TableAt
 rw [←tcells_setUn t k hk u,Nat.mul_comm k 4]
 exact BlockAt.set h _ _
theorem grown_below {a b c:World} {r:Option Nat} (h:a.grownBy b r) (k:Below b.heap.size b c):a.grownBy c r:=
 ⟨k.os.trans h.os,k.tape.trans h.tape,k.output.trans h.output,Nat.le_trans h.size k.size,fun i hi hne=>(k.block i (Nat.lt_of_lt_of_le hi h.size)).trans (h.block i hi hne)⟩
theorem grown_far {a b c:World} {r:Option Nat} {x:Nat} (h:a.grownBy b r) (k:b.grownBy c (some x)) (hx:a.heap.size≤x):a.grownBy c r:=
 grown_then h k (.inr ⟨x,rfl,hx⟩)
def ocells (o:Ord):List Value:=[zI zi o.kind,zI zi o.now,zI zi o.job,zI zi o.tr,zI zi o.wk,zI zi o.tm]
def AnsPost (w:World) (b:Nat) (x:Tbl×Ans) (e:Ending) (w':World):Prop:=
 e=.returned (.agg #[zI zi x.2.code,zI zi x.2.job,zI zi x.2.tr])∧w.grownBy w' (some b)∧TableAt w' b x.1
theorem ret_i64 {a b:Int} (h:a=b):Ending.returned (zI zi a)=.returned (zI zi b):=by rw [h]
theorem passTo_keep {w:World} {b:Nat} (t:Tbl) (m:Int) (k:Nat) (h:TableAt w b (passTo t m k)) (he:expire m (t.jobs k)=t.jobs k):TableAt w b (passTo t m (k+1)):=by
 refine h.congr (fun i _=>?_) rfl
 simp only [passTo]
 by_cases h1:i<k
 ·simp [h1,Nat.lt_succ_of_lt h1]
 ·by_cases h2:i=k
  ·subst h2;simp [he]
  ·simp [h1,show ¬ i<k+1 by omega]
theorem passTo_set {w:World} {b:Nat} (t:Tbl) (m:Int) (k:Nat) (h:TableAt w b ((passTo t m k).set k (expire m (t.jobs k)))):TableAt w b (passTo t m (k+1)):=by
 refine h.congr (fun i _=>?_) rfl
 simp only [passTo,Tbl.set]
 by_cases h1:i<k
 ·simp [h1,Nat.lt_succ_of_lt h1,show ¬ i=k by omega]
 ·by_cases h2:i=k
  ·subst h2;simp
  ·simp [h1,h2,show ¬ i<k+1 by omega]
theorem passTo_end {w:World} {b:Nat} (t:Tbl) (n:Int) (h:TableAt w b (passTo t (max t.now n) 6)):TableAt w b (t.pass n):=by
 refine h.congr (fun i hi=>?_) rfl
 simp [passTo,Tbl.pass,hi]
theorem passTo_start {w:World} {b:Nat} (t:Tbl) (m:Int) (h:TableAt w b t):TableAt (w.setCell ⟨b,24,none⟩ (zI zi m)) b (passTo t m 0):=by
 refine TableAt.congr (t:=⟨t.jobs,m⟩) (BlockAt.set h 24 _) (fun i _=>?_) rfl
 simp [passTo]
end Go.Proofs.YtfihmpkkpgmdhaaGreatDoor
end
section
namespace Go.Proofs.YtfihmpkkpgmdhaaGreatDoor
open Go.RowKit
structure Upd (F:Nat→Prop) (w w':World):Prop where
 os:w'.os=w.os
 tape:w'.tape=w.tape
 output:w'.output=w.output
 size:w.heap.size≤w'.heap.size
 block:∀ k,k<w.heap.size→¬ F k→w'.heap[k]? = w.heap[k]?
def From (w:World) (F F':Nat→Prop):Prop := ∀ k,F' k→F k∨w.heap.size≤k
def Sep (F G:Nat→Prop):Prop := ∀ k,F k→¬ G k
def In (w:World) (F:Nat→Prop):Prop := ∀ k,F k→k<w.heap.size
theorem Upd.refl (F:Nat→Prop) (w:World):Upd F w w:=⟨rfl,rfl,rfl,Nat.le_refl _,fun _ _ _=>rfl⟩
theorem Upd.trans {F G:Nat→Prop} {a b c:World} (h:Upd F a b) (k:Upd G b c) (hs:From a F G):Upd F a c:=
 ⟨k.os.trans h.os,k.tape.trans h.tape,k.output.trans h.output,Nat.le_trans h.size k.size,fun i hi hf=>(k.block i (Nat.lt_of_lt_of_le hi h.size) (fun hg=>by
  rcases hs i hg with h1|h1
  ·exact hf h1
  ·omega)).trans (h.block i hi hf)⟩
theorem Upd.mono {F G:Nat→Prop} {a b:World} (h:Upd F a b) (hs:∀ k,F k→G k):Upd G a b:=
 ⟨h.os,h.tape,h.output,h.size,fun i hi hg=>h.block i hi fun hf=>hg (hs i hf)⟩
theorem Upd.of_grown {w w':World} {r:Option Nat} (h:w.grownBy w' r):Upd (fun k=>r=some k) w w':=
 ⟨h.os,h.tape,h.output,h.size,fun k hk hf=>h.block k hk fun e=>hf e.symm⟩
theorem Upd.of_below {w w':World} (h:Below w.heap.size w w') (F:Nat→Prop):Upd F w w':=
 ⟨h.os,h.tape,h.output,h.size,fun k hk _=>h.block k hk⟩
theorem Upd.below {F:Nat→Prop} {B:Nat} {w w':World} (h:Upd F w w') (hB:B≤w.heap.size) (hF:∀ k,F k→B≤k):Below B w w':=
 ⟨h.os,h.tape,h.output,h.size,fun k hk=>h.block k (Nat.lt_of_lt_of_le hk hB) fun hf=>by have:=hF k hf;omega⟩
theorem Upd.alloc {F:Nat→Prop} {a w:World} (h:Upd F a w) (o:Obj):Upd F a (w.alloc o):=
 ⟨h.os,h.tape,h.output,Nat.le_trans h.size (by simp),fun i hi hne=>(Below.heap_alloc w o i (Nat.lt_of_lt_of_le hi h.size)).trans (h.block i hi hne)⟩
theorem Upd.setCell {F:Nat→Prop} {a w:World} (h:Upd F a w) {p:Addr} (hp:F p.block∨a.heap.size≤p.block) (u:Value):Upd F a (w.setCell p u):=
 ⟨h.os,h.tape,h.output,by simpa [World.setCell] using h.size,fun i hi hne=>(Below.heap_setCell w p u i (by
  rintro rfl
  rcases hp with hp|hp
  ·exact hne hp
  ·omega)).trans (h.block i hi hne)⟩
theorem Upd.drewN {F:Nat→Prop} {a w:World} (h:Upd F a w) (n:Nat):Upd F a (w.drewN n):=⟨h.os,h.tape,h.output,h.size,h.block⟩
theorem Upd.drew {F:Nat→Prop} {a w:World} (h:Upd F a w):Upd F a w.drew:=⟨h.os,h.tape,h.output,h.size,h.block⟩
theorem BlockAt.upd {F:Nat→Prop} {w w':World} {b:Nat} {ty:TypeId} {cs:List Value} (h:BlockAt w b ty cs) (hu:Upd F w w') (hf:¬ F b):BlockAt w' b ty cs:=by
 have hb:=hu.block b h.lt hf
 unfold BlockAt at *
 rw [hb];exact h
theorem From.refl (w:World) (F:Nat→Prop):From w F F:=fun _ h=>.inl h
theorem From.trans {a b:World} {F G H:Nat→Prop} (h:From a F G) (k:From b G H) (hs:a.heap.size≤b.heap.size):From a F H:=fun i hi=>by
 rcases k i hi with h1|h1
 ·exact h i h1
 ·exact .inr (by omega)
theorem Sep.step {w:World} {F F' G:Nat→Prop} (h:Sep F G) (hs:From w F F') (hG:In w G):Sep F' G:=fun k hk hg=>by
 rcases hs k hk with h1|h1
 ·exact h k h1 hg
 ·have:=hG k hg;omega
theorem Sep.symm {F G:Nat→Prop} (h:Sep F G):Sep G F:=fun k hg hf=>h k hf hg
theorem From.ge {w:World} {F F':Nat→Prop} {B:Nat} (h:From w F F') (hB:B≤w.heap.size) (hF:∀ k,F k→B≤k):∀ k,F' k→B≤k:=fun k hk=>by
 rcases h k hk with h1|h1
 ·exact hF k h1
 ·omega
theorem In.mono {w w':World} {F:Nat→Prop} (h:In w F) (hs:w.heap.size≤w'.heap.size):In w' F:=fun k hk=>Nat.lt_of_lt_of_le (h k hk) hs
def bv (x:UInt8):Value:=.int .u8 x.toNat
def bvs (l:List UInt8):List Value:=l.map bv
@[simp] theorem bvs_length (l:List UInt8):(bvs l).length=l.length:=by simp [bvs]
theorem bvs_append (l m:List UInt8):bvs (l++m)=bvs l++bvs m:=by simp [bvs]
theorem bvs_ones (l:List UInt8):∀ u∈bvs l,u.oneCell'=true:=by
 intro u hu
 simp only [bvs,List.mem_map] at hu
 obtain ⟨x,_,rfl⟩:=hu
 rfl
def BytesAt (w:World) (v:Value) (l:List UInt8):Prop:=
 ∃ a c,v=.slice a l.length c∧l.length≤c∧c≤maxLen∧(a=none→c=0) ∧
  (l≠[]→∃ g off,a=some ⟨g,off,none⟩∧∀ j u,(bvs l)[j]? = some u→w.cell? ⟨g,off+j,none⟩=some u)
def OwnB (w:World) (v:Value) (l:List UInt8):Prop:=
 (v=.slice none 0 0∧l=[]) ∨
 ∃ g cap cur,v=.slice (some ⟨g,0,none⟩) l.length cap∧BlockAt w g 5 cur∧l.length≤cap∧cap≤cur.length∧cap≤maxLen∧cur.take l.length=bvs l
theorem OwnB.nil (w:World):OwnB w (.slice none 0 0) []:=.inl ⟨rfl,rfl⟩
theorem OwnB.bytes {w:World} {v:Value} {l:List UInt8} (h:OwnB w v l):BytesAt w v l:=by
 rcases h with ⟨rfl,rfl⟩|⟨g,cap,cur,rfl,hb,h1,h2,h3,h4⟩
 ·exact ⟨none,0,rfl,Nat.le_refl _,Nat.zero_le _,fun _=>rfl,fun h=>absurd rfl h⟩
 ·refine ⟨_,cap,rfl,h1,h3,by simp,fun _=>⟨g,0,rfl,fun j u hu=>?_⟩⟩
  rw [Nat.zero_add]
  refine hb.cell j u ?_
  rw [←h4,List.getElem?_take] at hu
  split at hu
  ·exact hu
  ·cases hu
theorem OwnB.lt {w:World} {v:Value} {l:List UInt8} (h:OwnB w v l) {k:Nat} (hk:v.ownBlock=some k):k<w.heap.size:=by
 rcases h with ⟨rfl,rfl⟩|⟨g,cap,cur,rfl,hb,_⟩
 ·simp [Value.ownBlock] at hk
 ·simp [Value.ownBlock] at hk
  subst hk
  exact hb.lt
theorem OwnB.upd {F:Nat→Prop} {w w':World} {v:Value} {l:List UInt8} (h:OwnB w v l) (hu:Upd F w w') (hf:∀ k,v.ownBlock=some k→¬ F k):OwnB w' v l:=by
 rcases h with h|⟨g,cap,cur,rfl,hb,h1⟩
 ·exact .inl h
 ·exact .inr ⟨g,cap,cur,rfl,hb.upd hu (hf g rfl),h1⟩
theorem BytesAt.upd {F:Nat→Prop} {w w':World} {v:Value} {l:List UInt8} (h:BytesAt w v l) (hu:Upd F w w') (hf:∀ k,v.ownBlock=some k→¬ F k):BytesAt w' v l:=by
 obtain ⟨a,c,rfl,h1,h2,h3,h4⟩:=h
 refine ⟨a,c,rfl,h1,h2,h3,fun hl=>?_⟩
 obtain ⟨g,off,rfl,h5⟩:=h4 hl
 refine ⟨g,off,rfl,fun j u hj=>?_⟩
 have hc:=h5 j u hj
 rw [World.cell?_of_block (hu.block g (block_lt_of_cell hc) (hf g rfl))]
 exact hc
theorem BytesAt.len {w:World} {v:Value} {l:List UInt8} (h:BytesAt w v l):l.length≤maxLen:=by
 obtain ⟨_,_,_,h1,h2,_⟩:=h
 omega
theorem OwnB.cut {w:World} {g len cap:Nat} {l:List UInt8} (h:OwnB w (.slice (some ⟨g,0,none⟩) len cap) l) {n:Nat} (hn:n≤l.length):OwnB w (.slice (some ⟨g,0,none⟩) n n) (l.take n):=by
 rcases h with ⟨h,_⟩|⟨g',cap',cur,h,hb,h1,h2,h3,h4⟩
 ·simp at h
 ·simp only [Value.slice.injEq,Option.some.injEq,Addr.mk.injEq,and_true] at h
  obtain ⟨rfl,_,rfl⟩:=h
  have e:(l.take n).length=n:=by simp;omega
  refine .inr ⟨g,n,cur,by rw [e],hb,by omega,by omega,by omega,?_⟩
  rw [e]
  have h5:(cur.take l.length).take n=(bvs l).take n:=by rw [h4]
  rw [List.take_take,Nat.min_eq_left hn] at h5
  rw [h5]
  simp [bvs]
theorem laid_three (w:World) (t:TypeId) (a b:List Value) (Z:Array Value):BlockAt (w.alloc (.cells (a.toArray++b.toArray++Z) t)) w.heap.size t (a++b++Z.toList):=by
 obtain ⟨Z⟩:=Z
 have:=BlockAt.new w t (a++b++Z)
 simpa using this
section
variable {P:Program}
theorem run_append_bytes {w:World} (t ty e:TypeId) (i:TypeInfo) (ht:P.underlying t=some (.slice e)) (hi:P.info? e=some i) (hz:i.zero=some (.int .u8 0)) (hsz:i.size=1) (hby:i.bytes=1) (he:e=5)
  {v y:Value} {l m:List UInt8} (hv:OwnB w v l) (hy:BytesAt w y m) (hlen:l.length+m.length≤140737488355328) :
  ∃ v' w',(Builtin.append_ #[t,t] ty #[v,y]).run P w=.ok v' w'∧OwnB w' v' (l++m)∧Upd (fun k=>v.ownBlock=some k) w w'∧(∀ k,v'.ownBlock=some k→v.ownBlock=some k∨w.heap.size≤k):=by
 subst he
 have hml:maxLen=9223372036854775807:=rfl
 obtain ⟨ya,yc,rfl,y1,y2,y3,y4⟩:=hy
 by_cases hm:m=[]
 ·subst hm
  refine ⟨v,w,?_,by simpa using hv,Upd.refl _ _,fun k hk=>.inl hk⟩
  rcases hv with ⟨rfl,rfl⟩|⟨g,cap,cur,rfl,hb,h1,h2,h3,h4⟩
  ·cases ya<;>simp [Builtin.append_,run_underlying ht,sizeOf,typeInfo,hi,Builtin.lenOf,Builtin.firstCells,loadCells,loadCellsFrom]
  ·cases ya<;>simp [Builtin.append_,run_underlying ht,sizeOf,typeInfo,hi,Builtin.lenOf,Builtin.firstCells,loadCells,loadCellsFrom,h1,storeCells]
 ·obtain ⟨yg,yo,rfl,y5⟩:=y4 hm
  have hnews:∀ j u,(bvs m)[j]? = some u→w.cell? ((⟨yg,yo,none⟩:Addr).add j)=some u:=fun j u hj=>by
   rw [Addr.add_lit];exact y5 j u hj
  have hm0:0<m.length:=List.length_pos_iff.2 hm
  have grown:∀ old,old<l.length+m.length →
    OwnB (w.drew.alloc (.cells ((bvs l).toArray++(bvs m).toArray++Builtin.zeroCells (Value.cells (.int .u8 0)) (grownCap w (l.length+m.length) old 5-(l.length+m.length))) 5))
     (.slice (some ⟨w.heap.size,0,none⟩) (l.length+m.length) (grownCap w (l.length+m.length) old 5)) (l++m):=fun old _=>by
   have hge:=grownCap_ge w (l.length+m.length) old 5
   have hcm:=grownCap_le_maxLen w (l.length+m.length) old 5 (by omega)
   refine .inr ⟨w.heap.size,_,bvs l++bvs m++(Builtin.zeroCells (Value.cells (.int .u8 0)) (grownCap w (l.length+m.length) old 5-(l.length+m.length))).toList,by simp,?_,by simpa using hge,?_,hcm,?_⟩
   ·exact laid_three w.drew 5 _ _ _
   ·simp only [List.length_append,bvs_length,Array.length_toList,size_zeroCells]
    simp [Value.cells];omega
   ·rw [bvs_append,List.take_append_of_le_length (by simp)]
    exact List.take_of_length_le (by simp)
  rcases hv with ⟨rfl,rfl⟩|⟨g,cap,cur,rfl,hb,h1,h2,h3,h4⟩
  ·have hr:=run_append_nil (P:=P) w t ty 5 i (.int .u8 0) ht hi hz ⟨yg,yo,none⟩ m.length yc (bvs m) (by simp [hsz]) hnews hm0 (by omega) (by rw [hby];omega)
   have hg:=grown 0 (by omega)
   simp only [List.length_nil,Nat.zero_add] at hg hr
   refine ⟨_,_,hr,by simpa [bvs] using hg,?_,fun k hk=>.inr ?_⟩
   ·exact (Upd.drew (Upd.refl _ w)).alloc _
   ·simp [Value.ownBlock] at hk;omega
  ·by_cases hroom:l.length+m.length≤cap
   ·have hr:=run_append_room (P:=P) w t ty 5 i ht hi g l.length cap cur.toArray hb ⟨yg,yo,none⟩ m.length yc (bvs m) (by simp [hsz]) hnews (bvs_ones m) hroom (by simp [hsz];omega)
    refine ⟨_,_,hr,.inr ⟨g,cap,(bvs l++bvs m++cur.drop (l.length+m.length)),by simp,?_,by simpa using hroom,?_,h3,?_⟩,?_,fun k hk=>.inl hk⟩
    ·have:=hb.setRow (cur.take l.length++bvs m++cur.drop (l.length+m.length))
     rw [h4] at this
     simpa [hsz,h4] using this
    ·simp;omega
    ·rw [bvs_append,List.take_append_of_le_length (by simp)]
     exact List.take_of_length_le (by simp)
    ·exact Upd.of_grown (grown_setRow (grown_refl w _) _)
   ·have holds:∀ j u,(bvs l)[j]? = some u→w.cell? ((⟨g,0,none⟩:Addr).add j)=some u:=fun j u hu=>by
     rw [Addr.add_lit,Nat.zero_add]
     refine hb.cell j u ?_
     rw [←h4,List.getElem?_take] at hu
     split at hu
     ·exact hu
     ·cases hu
    have hr:=run_append_grow (P:=P) w t ty 5 i (.int .u8 0) ht hi hz ⟨g,0,none⟩ l.length cap (bvs l) (by simp [hsz]) holds ⟨yg,yo,none⟩ m.length yc (bvs m) (by simp [hsz]) hnews (by omega) (by omega) (by rw [hby];exact growslice_fits (by omega) (by omega))
    refine ⟨_,_,hr,grown cap (by omega),?_,fun k hk=>.inr ?_⟩
    ·exact (Upd.drew (Upd.refl _ w)).alloc _
    ·simp [Value.ownBlock] at hk;omega
theorem wpList_append_bytes {w:World} {ops:Array Oper} {rest:List Oper} {o:Oper} {a:Act} {Q:Exit→Act→World→Prop} (hgd:o.guard=none) (s x:Operand) (t:TypeId)
  (ho:o.op=.call { callee:=.builtin .append,args:=#[s,x],argTypes:=#[t,t] })
  (e:TypeId) (i:TypeInfo) (ht:P.underlying t=some (.slice e)) (hi:P.info? e=some i) (hz:i.zero=some (.int .u8 0)) (hsz:i.size=1) (hby:i.bytes=1) (he:e=5)
  {v y:Value} {l m:List UInt8} (hs:a.eval s=v) (hx:a.eval x=y) (hv:OwnB w v l) (hy:BytesAt w y m) (hlen:l.length+m.length≤140737488355328)
  (h:∀ v' w',OwnB w' v' (l++m)→Upd (fun k=>v.ownBlock=some k) w w'→(∀ k,v'.ownBlock=some k→v.ownBlock=some k∨w.heap.size≤k)→wpList P ops Q rest (a.put o.dst v') w'):wpList P ops Q (o::rest) a w:=
 wpList_plain hgd fun _ hK=>by
  obtain ⟨v',w',hr,h2,h3,h4⟩:=run_append_bytes (P:=P) t o.type e i ht hi hz hsz hby he hv hy hlen
  unfold Oper.wp execOp
  simp only [ho,resolve,invoke,builtin,Sem.run_bind,Sem.run_pure,Result.andThen_ok,List.map_toArray,List.map_cons,List.map_nil,hs,hx,hr]
  exact hK _ _ (h v' w' h2 h3 h4)
end
end Go.Proofs.YtfihmpkkpgmdhaaGreatDoor
end
