/-
  What the proof of DeskDoes leans on: definitions, laws, contracts of functions. No condition besides those that each theorem names.
-/
import Derived.Test.YtfihmpkkpgmdhaaGreatDoorZD12
import Derived.Test.YtfihmpkkpgmdhaaGreatDoorZD13
import Derived.Test.YtfihmpkkpgmdhaaGreatDoorZD11
import Derived.Test.YtfihmpkkpgmdhaaGreatDoorZD01
set_option maxRecDepth 100000
set_option maxHeartbeats 16000000
set_option linter.unusedVariables false
set_option linter.unusedSimpArgs false
set_option linter.unnecessarySimpa false
namespace Go.Proofs.YtfihmpkkpgmdhaaGreatDoor
open Go.RowKit
open Go.Value renaming int → zI
open Go.IntKind renaming i64 → zi
def Rec.val (r:Rec):Value:=.agg #[zI zi r.ep,zI zi r.o.kind,zI zi r.o.now,zI zi r.o.job,zI zi r.o.tr,zI zi r.o.wk,zI zi r.o.tm]
theorem enc_sl (p c n j t k m:Int) (w:World) {R:HP} (h:Holds w R) :
  Calls Tryz.prog 136 #[.agg #[zI zi p,zI zi c,zI zi n,zI zi j,zI zi t,zI zi k,zI zi m]] w (PostX w R (fun v=>.tuple #[v,zI zi (chkR ⟨p,⟨c,n,j,t,k,m⟩⟩)]) fun v=>ownb v (if chkR ⟨p,⟨c,n,j,t,k,m⟩⟩=0 then encB ⟨p,⟨c,n,j,t,k,m⟩⟩ else [])):=
 (encode_any p c n j t k m w).mono fun e w' ⟨v,he,ho,hb,hf⟩=>⟨v,he,Quiet.below hb,h.newO hb ho hf⟩
theorem bof_sl (p c n j t k m:Int) (w:World) (h0:chkR ⟨p,⟨c,n,j,t,k,m⟩⟩=0) {R:HP} (h:Holds w R) :
  Calls Tryz.prog 94 #[.agg #[zI zi p,zI zi c,zI zi n,zI zi j,zI zi t,zI zi k,zI zi m]] w (PostX w R (fun v=>v) fun v=>ownb v (encB ⟨p,⟨c,n,j,t,k,m⟩⟩)):=
 (bytesof_any p c n j t k m w h0).mono fun e w' ⟨v,he,ho,hb,hf⟩=>⟨v,he,Quiet.below hb,h.newO hb ho hf⟩
theorem all_sl (v:Value) (l:List UInt8) (w:World) (h:BytesAt w v l) (hl:l.length≤100000) {R:HP} (hr:Holds w R):Calls Tryz.prog 78 #[v] w (PostX w R (fun v=>v) fun v=>recs v (allB l)):=
 (all_any v l w h hl).mono fun e w' ⟨v,he,q,ho⟩=>⟨v,he,q,ho.frame hr⟩
theorem recsof_sl (v:Value) (l:List UInt8) (w:World) (h:BytesAt w v l) (hl:l.length≤100000) {R:HP} (hr:Holds w R):Calls Tryz.prog 64 #[v] w (PostX w R (fun v=>v) fun v=>recs v (allB l)):=
 (recsof_any v l w h hl).mono fun e w' ⟨v,he,q,ho⟩=>⟨v,he,q,ho.frame hr⟩
theorem Holds.nilB {w:World} {A:HP} (h:Holds w A):Holds w (Go.Proofs.YtfihmpkkpgmdhaaGreatDoor.ownb (.slice none 0 0) []*A):=by rw [ownb_row];exact h.nilRow _ _
theorem BytesAt.shape {w:World} {v:Value} {l:List UInt8} (h:BytesAt w v l):∃ a c,v=.slice a l.length c∧l.length≤c∧c≤9223372036854775807:=h.row.shape
theorem BytesAt.nil (w:World):BytesAt w (.slice none 0 0) []:=⟨none,0,rfl,Nat.le_refl _,Nat.zero_le _,fun _=>rfl,fun h=>absurd rfl h⟩
theorem BytesAt.box {w:World} {l:List UInt8} {cs:List Value} (hc:cs=bvs l) (hl:l.length≤1000000) {g:Nat} (hg:w.heap.size=g):BytesAt (w.alloc (.cells cs.toArray 5)) (.slice (some ⟨g,0,none⟩) l.length l.length) l:=by
 subst hc
 exact (RowAt.box (cs:=bvs l) hl hg).bytes
def dsk (b:Nat) (d:Dsk):HP where
 on F w:=DiskAt w b d F
 lt:=fun h k hk=>h.inW k hk
 keep:=by
  rintro F w w' ⟨v,hb,hv,rfl⟩ hk
  refine ⟨v,by unfold BlockAt at *;rw [hk b (.inl rfl)];exact hb,?_,rfl⟩
  exact ((ownb v d.b).keep (F:=fun k=>v.ownBlock=some k) ⟨hv,rfl⟩ fun k h=>hk k (.inr h)).1
theorem dnew_sl (w:World) {R:HP} (h:Holds w R):Calls Tryz.prog 19 #[] w (PostX w R (fun b:Nat=>.pointer (some ⟨b,0,none⟩)) fun b=>dsk b Dsk.zero):=
 (dnew_any w).mono fun e w' ⟨b,F,he,hb,hd,hl⟩=>⟨b,he,Quiet.below hb,h.new hb.block hd hl⟩
theorem depoch_sl (b:Nat) (d:Dsk) (w:World) {R:HP} (h:Holds w (dsk b d*R)):Calls Tryz.prog 51 #[.pointer (some ⟨b,0,none⟩)] w fun e w'=>e=.returned (zI zi d.ep)∧w=w':=by
 obtain ⟨F,hF⟩:=h.left
 exact epoch_any b d F w hF
theorem Holds.diskPost {w w':World} {b:Nat} {d d':Dsk} {R:HP} {v:Value} {e:Ending} {F:Nat→Prop} (hn:∀ (w':World) (F':Nat→Prop) (B:HP),B.on F' w'→Upd F w w'→From w F F'→Holds w' (B*R)) (hp:DiskPost w b F d' v e w'):Post w R v (dsk b d') e w':=by
 obtain ⟨F',he,h1,h2,h3⟩:=hp
 exact ⟨he,Quiet.upd h2,hn _ _ (dsk b d') h1 h2 h3⟩
theorem raise_sl (b:Nat) (d:Dsk) (w:World) {R:HP} (h:Holds w (dsk b d*R)) (hok:d.Ok) :
  Calls Tryz.prog 121 #[.pointer (some ⟨b,0,none⟩)] w (Post w R (.tuple #[zI zi d.raise.2.1,zI zi d.raise.2.2]) (dsk b d.raise.1)):=by
 obtain ⟨F,hF,hn⟩:=h.open
 exact (raise_any b d F w hF hok).mono fun e w' hp=>Holds.diskPost (d:=d) hn hp
theorem append_sl (b:Nat) (d:Dsk) (x:Int) (y:Value) (m:List UInt8) (w:World) {R:HP} (h:Holds w (dsk b d*R)) (hok:d.Ok) (hy:BytesAt w y m) (hm:m.length≤100000) :
  Calls Tryz.prog 137 #[.pointer (some ⟨b,0,none⟩),zI zi x,y] w (Post w R (zI zi (d.append x m).2) (dsk b (d.append x m).1)):=by
 obtain ⟨F,hF,hn⟩:=h.open
 exact (append_any b d F x y m w hF hok hy hm).mono fun e w' hp=>Holds.diskPost (d:=d) hn hp
theorem cut_sl (b:Nat) (d:Dsk) (x n:Int) (w:World) {R:HP} (h:Holds w (dsk b d*R)) (hok:d.Ok) :
  Calls Tryz.prog 122 #[.pointer (some ⟨b,0,none⟩),zI zi x,zI zi n] w (Post w R (zI zi (d.cut x n).2) (dsk b (d.cut x n).1)):=by
 obtain ⟨F,hF,hn⟩:=h.open
 exact (cut_any b d F x n w hF hok).mono fun e w' hp=>Holds.diskPost (d:=d) hn hp
theorem bytes_sl (b:Nat) (d:Dsk) (w:World) {R:HP} (h:Holds w (dsk b d*R)) (hok:d.Ok) :
  Calls Tryz.prog 52 #[.pointer (some ⟨b,0,none⟩)] w (PostX w (dsk b d*R) (fun v=>v) fun v=>ownb v d.b):=by
 obtain ⟨F,hF⟩:=h.left
 exact (bytes_any b d F w hF hok).mono fun e w' ⟨v,he,ho,hb,hl⟩=>⟨v,he,Quiet.below hb,h.newO hb ho hl⟩
def nblk (bn bt bd:Nat) (n:Nod):HP:=bl bn 119 [.pointer (some ⟨bt,0,none⟩),.pointer (some ⟨bd,0,none⟩),zI zi n.ep,.bool n.down]
def nod (bn bd:Nat) (n:Nod):HP:=HP.ex fun bt:Nat=>nblk bn bt bd n*tab bt n.t
theorem HP.ex_mul {α:Type} {A:α→HP} {B:HP} {w:World} (h:Holds w (HP.ex A*B)):∃ x,Holds w (A x*B):=by
 obtain ⟨F,F1,F2,hd,hF,⟨x,ha⟩,hb⟩:=h
 exact ⟨x,F,F1,F2,hd,hF,ha,hb⟩
theorem HP.mul_ex {α:Type} {A:α→HP} {B:HP} {w:World} {x:α} (h:Holds w (A x*B)):Holds w (HP.ex A*B):=by
 obtain ⟨F,F1,F2,hd,hF,ha,hb⟩:=h
 exact ⟨F,F1,F2,hd,hF,⟨x,ha⟩,hb⟩
theorem nod_open {w:World} {bn bd:Nat} {n:Nod} {R:HP} (h:Holds w (nod bn bd n*R)):∃ bt:Nat,Holds w (nblk bn bt bd n*(tab bt n.t*R)):=by
 obtain ⟨bt,h⟩:=HP.ex_mul h
 exact ⟨bt,h.eq (HP.assoc _ _ _)⟩
theorem nod_close {w:World} {bn bt bd:Nat} {n:Nod} {R:HP} (h:Holds w (nblk bn bt bd n*(tab bt n.t*R))):Holds w (nod bn bd n*R):=
 HP.mul_ex (A:=fun bt:Nat=>nblk bn bt bd n*tab bt n.t) (x:=bt) (h.eq (HP.assoc _ _ _).symm)
end Go.Proofs.YtfihmpkkpgmdhaaGreatDoor
