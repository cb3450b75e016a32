/-
  What the proof of DeskDoes leans on: definitions, laws, contracts of functions. No condition besides those that each theorem names.
-/
import Derived.Test.YtfihmpkkpgmdhaaGreatDoorZD06
import Derived.Test.YtfihmpkkpgmdhaaGreatDoorZD03
import Derived.Lib.SlBytesConst
import Derived.Test.YtfihmpkkpgmdhaaGreatDoorZD10
set_option maxRecDepth 100000
set_option maxHeartbeats 16000000
set_option linter.unusedVariables false
set_option linter.unusedSimpArgs false
set_option linter.unnecessarySimpa false
section
namespace Go.Proofs.YtfihmpkkpgmdhaaGreatDoor
open Go.Value renaming int → zI
open Go.IntKind renaming i64 → zi
open Go.RowKit
def rvs (l:List Rec):List Value:=l.flatMap rcells
theorem rcells_length (r:Rec):(rcells r).length=7:=rfl
theorem rvs_append (l m:List Rec):rvs (l++m)=rvs l++rvs m:=by simp [rvs]
theorem rvs_get (l:List Rec):∀ (i j:Nat),j<7→(rvs l)[i*7+j]? = (l[i]?).bind fun r=>(rcells r)[j]? := by
 induction l with
 | nil=>intro i j _;simp [rvs]
 | cons r l ih=>
  intro i j hj
  have e:rvs (r::l)=rcells r++rvs l:=by simp [rvs]
  rw [e]
  cases i with
  | zero=>rw [List.getElem?_append_left (by rw [rcells_length];omega)];simp
  | succ i=>
   rw [List.getElem?_append_right (by rw [rcells_length];omega),rcells_length,show (i+1)*7+j-7=i*7+j by omega,ih i j hj]
   simp
theorem rvs_ones (l:List Rec):∀ u∈rvs l,u.oneCell'=true:=by
 intro u hu
 simp only [rvs,List.mem_flatMap,rcells] at hu
 obtain ⟨x,_,h⟩:=hu
 simp at h
 rcases h with rfl|rfl|rfl|rfl|rfl|rfl|rfl<;>rfl
def OwnR (w:World) (base:Nat) (v:Value) (l:List Rec):Prop:=w.ownsRow base 103 7 v l.length (rvs l)
theorem ownsRow_upd {F:Nat→Prop} {w w':World} {base:Nat} {e:TypeId} {size:Nat} {v:Value} {n:Nat} {xs:List Value} (h:w.ownsRow base e size v n xs) (hu:Upd F w w') (hf:∀ k,v.ownBlock=some k→¬ F k):w'.ownsRow base e size v n xs:=by
 obtain ⟨h1,h|⟨g,cap,cur,rfl,hb,hh,hr⟩⟩:=h
 ·exact ⟨h1,.inl h⟩
 ·refine ⟨h1,.inr ⟨g,cap,cur,rfl,hb,?_,hr⟩⟩
  exact BlockAt.upd (cs:=cur.toList) hh hu (hf g rfl)
theorem OwnR.nil (w:World) (base:Nat):OwnR w base (.slice none 0 0) []:=⟨rfl,.inl ⟨rfl,rfl⟩⟩
theorem OwnR.upd {F:Nat→Prop} {w w':World} {base:Nat} {v:Value} {l:List Rec} (h:OwnR w base v l) (hu:Upd F w w') (hf:∀ k,v.ownBlock=some k→¬ F k):OwnR w' base v l:=ownsRow_upd h hu hf
theorem OwnR.ge {w:World} {base:Nat} {v:Value} {l:List Rec} (h:OwnR w base v l) {k:Nat} (hk:v.ownBlock=some k):base≤k:=by
 obtain ⟨h1,⟨rfl,_⟩|⟨g,cap,cur,rfl,hb,_⟩⟩:=h
 ·simp [Value.ownBlock] at hk
 ·simp [Value.ownBlock] at hk;omega
theorem OwnR.lt {w:World} {base:Nat} {v:Value} {l:List Rec} (h:OwnR w base v l) {k:Nat} (hk:v.ownBlock=some k):k<w.heap.size:=by
 obtain ⟨h1,⟨rfl,_⟩|⟨g,cap,cur,rfl,hb,hh,_⟩⟩:=h
 ·simp [Value.ownBlock] at hk
 ·simp [Value.ownBlock] at hk
  subst hk
  exact (Array.getElem?_eq_some_iff.1 hh).1
theorem OwnR.mono {w:World} {b b':Nat} {v:Value} {l:List Rec} (h:OwnR w b v l) (hb:b'≤b):OwnR w b' v l:=by
 obtain ⟨h1,h|⟨g,cap,cur,rfl,hg,hr⟩⟩:=h
 ·exact ⟨h1,.inl h⟩
 ·exact ⟨h1,.inr ⟨g,cap,cur,rfl,Nat.le_trans hb hg,hr⟩⟩
theorem BytesAt.drop {w:World} {g off n c:Nat} {l:List UInt8} (h:BytesAt w (.slice (some ⟨g,off,none⟩) n c) l) {q:Nat} (hq:q≤l.length):BytesAt w (.slice (some ⟨g,off+q,none⟩) (n-q) (c-q)) (l.drop q):=by
 obtain ⟨a',c',e,h1,h2,h3,h4⟩:=h
 simp only [Value.slice.injEq] at e
 obtain ⟨rfl,rfl,rfl⟩:=e
 refine ⟨some ⟨g,off+q,none⟩,c-q,by rw [List.length_drop],by rw [List.length_drop];omega,by omega,(fun e=>by cases e),fun hne=>?_⟩
 obtain ⟨g',off',e,h5⟩:=h4 (by intro e;subst e;simp at hne)
 simp at e
 obtain ⟨rfl,rfl⟩:=e
 refine ⟨g,off+q,rfl,fun j u hu=>?_⟩
 rw [Nat.add_assoc]
 refine h5 (q+j) u ?_
 simpa [bvs,List.map_drop,List.getElem?_drop] using hu
theorem Tryz.infoRec:(Tryz.prog.info? 103).map (fun i=>(i.zero,i.size,i.bytes))=some (some (.agg #[zI zi 0,zI zi 0,zI zi 0,zI zi 0,zI zi 0,zI zi 0,zI zi 0]),7,56):=by kernel_rfl
section
variable {P:Program}
end
end Go.Proofs.YtfihmpkkpgmdhaaGreatDoor
end
namespace Go.Proofs.YtfihmpkkpgmdhaaGreatDoor
open Go.RowKit
open Go.Value renaming int → zI
open Go.IntKind renaming i64 → zi
structure DSt (w0 w:World) (b:Nat) (d:Dsk) (F:Nat→Prop):Prop where
 ok:d.Ok
 at_:DiskAt w b d F
 ge:∀ k,F k→w0.heap.size≤k
 below:Below w0.heap.size w0 w
theorem DSt.upd {G:Nat→Prop} {w0 w w':World} {b:Nat} {d:Dsk} {F:Nat→Prop} (h:DSt w0 w b d F) (hu:Upd G w w') (hs:Sep F G) (hg:∀ k,G k→w0.heap.size≤k):DSt w0 w' b d F:=
 ⟨h.ok,h.at_.upd hu hs,h.ge,h.below.trans (hu.below h.below.size hg)⟩
theorem DSt.new {w0 w:World} {b:Nat} {d:Dsk} {F:Nat→Prop} (h:DSt w0 w b d F) {w':World} (hb:Below w.heap.size w w'):DSt w0 w' b d F:=
 h.upd (Upd.of_below hb (fun _=>False)) (fun _ _ h=>h) (fun _ h=>h.elim)
theorem DSt.alloc {w0 w:World} {b:Nat} {d:Dsk} {F:Nat→Prop} (h:DSt w0 w b d F) (o:Obj):DSt w0 (w.alloc o) b d F:=
 h.new ((Below.refl _ _).alloc (Nat.le_refl _) o)
theorem DSt.drewN {w0 w:World} {b:Nat} {d:Dsk} {F:Nat→Prop} (h:DSt w0 w b d F) (n:Nat):DSt w0 (w.drewN n) b d F:=
 h.new (below_drewN (Below.refl _ _) n)
theorem DSt.post {w0 w w':World} {b:Nat} {d d':Dsk} {F:Nat→Prop} {v:Value} {e:Ending} (h:DSt w0 w b d F) (hp:DiskPost w b F d' v e w') (hok:d'.Ok):e=.returned v∧∃ F',DSt w0 w' b d' F'∧From w F F'∧Upd F w w':=by
 obtain ⟨F',he,h1,h2,h3⟩:=hp
 exact ⟨he,F',⟨hok,h1,h3.ge h.below.size h.ge,h.below.trans (h2.below h.below.size h.ge)⟩,h3,h2⟩
def DP (w0:World) (b:Nat) (d:Dsk) (v:Value) (e:Ending) (w':World):Prop:=e=.returned v∧∃ F,DSt w0 w' b d F
theorem DSt.drew {w0 w:World} {b:Nat} {d:Dsk} {F:Nat→Prop} (h:DSt w0 w b d F):DSt w0 w.drew b d F:=
 h.new (Below.drew (Below.refl _ _))
def strOf (l:List UInt8):ByteArray:=⟨l.toArray⟩
theorem BytesAt.keep {w w':World} {v:Value} {l:List UInt8} (h:BytesAt w v l) (hb:Below w.heap.size w w'):BytesAt w' v l:=
 h.upd (Upd.of_below hb (fun _=>False)) (fun _ _ h=>h)
theorem bjob_any (b:Nat) (ty:TypeId) (cs:List Value) (t:Tbl) (n:Int) (w:World) (h:BlockAt w b ty (tcells t++cs)) :
  Calls Tryz.prog 36 #[.pointer (some ⟨b,0,none⟩),zI zi n] w fun e w'=>e=.returned (t.job n).val∧Below w.heap.size w w':=by
 have hlt:=h.lt
 by_cases h0:n<0
 ·have HJ:Hid (t.job n=Job.zero):=by simp only [Hid,Tbl.job,if_neg (show ¬ (0≤n∧n≤5) by omega)]
  clear h
  go_enter Tryz.func36,Tryz.ntmps36
  go_wp2
  rw [HJ.out]
  refine bodyPost_ret (v:=Job.zero.val) (by simp [results,Tryz.results36,go_sem,Job.val,jcells,Job.zero]) rfl ⟨rfl,?_⟩
  repeat refine Below.setCell ?_ (Nat.le_refl _) _
  exact (Below.refl _ _).alloc (Nat.le_refl _) _
 ·by_cases h5:6≤n
  ·have HJ:Hid (t.job n=Job.zero):=by simp only [Hid,Tbl.job,if_neg (show ¬ (0≤n∧n≤5) by omega)]
   clear h
   go_enter Tryz.func36,Tryz.ntmps36
   go_wp2
   rw [HJ.out]
   refine bodyPost_ret (v:=Job.zero.val) (by simp [results,Tryz.results36,go_sem,Job.val,jcells,Job.zero]) rfl ⟨rfl,?_⟩
   repeat refine Below.setCell ?_ (Nat.le_refl _) _
   exact (Below.refl _ _).alloc (Nat.le_refl _) _
  ·obtain ⟨k,rfl⟩:=Int.eq_ofNat_of_zero_le (show 0≤n by omega)
   have hk6:k<6:=by omega
   have HJ:Hid (t.job k=t.jobs k):=by simp only [Hid,Tbl.job,if_pos (show 0≤(k:Int)∧(k:Int)≤5 by omega)];rfl
   have hcell:∀ j v,j<25→(tcells t)[j]? = some v→w.cell? ⟨b,j,none⟩=some v:=fun j v hj hv=>h.cell j v (by rw [List.getElem?_append_left (by rw [tcells_len];exact hj)];exact hv)
   obtain ⟨e0,e1,e2,e3⟩:=tcells_job t k hk6
   rw [Nat.mul_comm] at e0 e1 e2 e3
   have c0:=hcell _ _ (by omega) e0
   have c1:=hcell _ _ (by omega) e1
   have c2:=hcell _ _ (by omega) e2
   have c3:=hcell _ _ (by omega) e3
   clear e0 e1 e2 e3 hcell h h0 h5
   go_enter Tryz.func36,Tryz.ntmps36
   go_wp2
   rw [HJ.out]
   refine bodyPost_ret (v:=(t.jobs k).val) (by simp [results,Tryz.results36,go_sem,Job.val,jcells]) rfl ⟨rfl,?_⟩
   repeat refine Below.setCell ?_ (Nat.le_refl _) _
   exact (Below.refl _ _).alloc (Nat.le_refl _) _
end Go.Proofs.YtfihmpkkpgmdhaaGreatDoor
