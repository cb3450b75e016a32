/-
  What the proof of DeskDoes leans on: definitions, laws, contracts of functions. No condition besides those that each theorem names.
-/
import Derived.Test.YtfihmpkkpgmdhaaGreatDoorZD02
import Derived.Test.YtfihmpkkpgmdhaaGreatDoorZD01
import Derived.RegionTactic
import Derived.BigRegion
set_option maxRecDepth 100000
set_option maxHeartbeats 16000000
set_option linter.unusedVariables false
set_option linter.unusedSimpArgs false
set_option linter.unnecessarySimpa false
namespace Go.Proofs.YtfihmpkkpgmdhaaGreatDoor
open Go.RowKit
open Go.Lib renaming hid → zH
open Go.Value renaming int → zI
open Go.IntKind renaming i64 → zi
def DiskAt (w:World) (b:Nat) (d:Dsk) (F:Nat→Prop):Prop:=
 ∃ v,BlockAt w b 108 [zI zi d.ep,v]∧OwnB w v d.b∧F=fun k=>k=b∨v.ownBlock=some k
theorem DiskAt.inW {w:World} {b:Nat} {d:Dsk} {F:Nat→Prop} (h:DiskAt w b d F):In w F:=by
 obtain ⟨v,hb,hv,rfl⟩:=h
 rintro k (rfl|hk)
 ·exact hb.lt
 ·exact hv.lt hk
theorem DiskAt.upd {G:Nat→Prop} {w w':World} {b:Nat} {d:Dsk} {F:Nat→Prop} (h:DiskAt w b d F) (hu:Upd G w w') (hs:Sep F G):DiskAt w' b d F:=by
 obtain ⟨v,hb,hv,rfl⟩:=h
 exact ⟨v,hb.upd hu (hs b (.inl rfl)),hv.upd hu fun k hk=>hs k (.inr hk),rfl⟩
theorem OwnB.ne {w:World} {v:Value} {l:List UInt8} (h:OwnB w v l) {b:Nat} {ty:TypeId} {cs:List Value} (hb:BlockAt w b ty cs) (hne:ty≠5):∀ k,v.ownBlock=some k→k≠b:=by
 rcases h with ⟨rfl,_⟩|⟨g,cap,cur,rfl,hg,_⟩
 ·intro k hk;simp [Value.ownBlock] at hk
 ·intro k hk;simp [Value.ownBlock] at hk;subst hk;exact hg.ne hb (Ne.symm hne)
theorem Tryz.infoU8:(Tryz.prog.info? 5).map (fun i=>(i.zero,i.size,i.bytes))=some (some (.int .u8 0),1,1):=by kernel_rfl
theorem dnew_any (w:World) :
  Calls Tryz.prog 19 #[] w fun e w'=>∃ b F,e=.returned (.pointer (some ⟨b,0,none⟩))∧Below w.heap.size w w'∧DiskAt w' b Dsk.zero F∧∀ k,F k→w.heap.size≤k:=by
 go_enter Tryz.func19,Tryz.ntmps19
 go_wp2
 go_ret
 exact ⟨_,_,rfl,(Below.refl _ _).alloc (Nat.le_refl _) _,⟨_,BlockAt.new w _ _,OwnB.nil _,rfl⟩,by rintro k (rfl|hk);exact Nat.le_refl _;simp [Value.ownBlock] at hk⟩
theorem epoch_any (b:Nat) (d:Dsk) (F:Nat→Prop) (w:World) (h:DiskAt w b d F) :
  Calls Tryz.prog 51 #[.pointer (some ⟨b,0,none⟩)] w fun e w'=>e=.returned (zI zi d.ep)∧w=w':=by
 obtain ⟨v,hb,hv,rfl⟩:=h
 have c:=hb.cells
 clear hb hv
 go_enter Tryz.func51,Tryz.ntmps51
 go_wp2
 go_ret
 exact ⟨rfl,rfl⟩
theorem may_any (b:Nat) (d:Dsk) (F:Nat→Prop) (x:Int) (w:World) (h:DiskAt w b d F) :
  Calls Tryz.prog 134 #[.pointer (some ⟨b,0,none⟩),zI zi x] w fun e w'=>e=.returned (zI zi (d.may x))∧w=w':=by
 obtain ⟨v,hb,hv,rfl⟩:=h
 have c:=hb.cells
 clear hb hv
 by_cases h1:x<1
 ·have e:d.may x=9:=by simp [Dsk.may,h1]
  rw [e];clear e
  go_enter Tryz.func134,Tryz.ntmps134
  go_wp2
  go_ret
  exact ⟨rfl,rfl⟩
 ·by_cases h2:x=d.ep
  ·have e:d.may x=0:=by simp [Dsk.may];omega
   rw [e];clear e
   have h3:(x != d.ep)=false:=by simpa using h2
   clear h2
   go_enter Tryz.func134,Tryz.ntmps134
   go_wp2
   go_ret
   exact ⟨rfl,rfl⟩
  ·have e:d.may x=9:=by simp [Dsk.may,h2]
   rw [e];clear e
   have h3:(x != d.ep)=true:=by simpa using h2
   clear h2
   go_enter Tryz.func134,Tryz.ntmps134
   go_wp2
   go_ret
   exact ⟨rfl,rfl⟩
def DiskPost (w:World) (b:Nat) (F:Nat→Prop) (d:Dsk) (v:Value) (e:Ending) (w':World):Prop:=
 ∃ F',e=.returned v∧DiskAt w' b d F'∧Upd F w w'∧From w F F'
theorem raise_any (b:Nat) (d:Dsk) (F:Nat→Prop) (w:World) (h:DiskAt w b d F) (hok:d.Ok) :
  Calls Tryz.prog 121 #[.pointer (some ⟨b,0,none⟩)] w (DiskPost w b F d.raise.1 (.tuple #[zI zi d.raise.2.1,zI zi d.raise.2.2])):=by
 have HH:=zH h
 obtain ⟨v,hb,hv,rfl⟩:=h
 have c:=hb.cells
 have f:=hb.frees
 have h0:=hok.ep.1
 have h1:=hok.ep.2
 have HB:=zH hb
 have HV:=zH hv
 clear hb hv hok
 by_cases hr:100≤d.ep
 ·have e:d.raise=(d,0,8):=by simp [Dsk.raise,hr]
  rw [e];clear e
  go_enter Tryz.func121,Tryz.ntmps121
  go_wp2
  go_ret2
  exact ⟨_,rfl,HH.out,Upd.refl _ _,From.refl _ _⟩
 ·have e:d.raise=(⟨d.ep+1,d.b⟩,d.ep+1,0):=by simp [Dsk.raise,hr]
  rw [e];clear e
  go_enter Tryz.func121,Tryz.ntmps121
  go_wp2
  go_ret2
  exact ⟨_,rfl,⟨v,HB.out.set 0 _,HV.out.upd (Upd.setCell (F:=fun k=>k=b) (Upd.refl _ w) (.inl rfl) _) (HV.out.ne HB.out (by decide)),rfl⟩,Upd.setCell (Upd.refl _ _) (.inl (.inl rfl)) _,From.refl _ _⟩
theorem append_any (b:Nat) (d:Dsk) (F:Nat→Prop) (x:Int) (y:Value) (m:List UInt8) (w:World) (h:DiskAt w b d F) (hok:d.Ok) (hy:BytesAt w y m) (hm:m.length≤100000) :
  Calls Tryz.prog 137 #[.pointer (some ⟨b,0,none⟩),zI zi x,y] w (DiskPost w b F (d.append x m).1 (zI zi (d.append x m).2)):=by
 have HH:=zH h
 have HY:=zH hy
 obtain ⟨v,hb,hv,rfl⟩:=h
 have HB:=zH hb
 have HV:=zH hv
 have c:=hb.cells
 have f:=hb.frees
 have hl:=hok.b
 obtain ⟨va,vc,rfl,_⟩:∃ a c,v=.slice a d.b.length c∧True:=by obtain ⟨a,c,h,_⟩:=hv.bytes;exact ⟨a,c,h,trivial⟩
 obtain ⟨ya,yc,rfl,_⟩:∃ a c,y=.slice a m.length c∧True:=by obtain ⟨a,c,h,_⟩:=hy;exact ⟨a,c,h,trivial⟩
 clear hb hv hok hy
 by_cases h1:d.may x=0
 ·have hx:¬ (x<1∨x≠d.ep):=by intro h;simp [Dsk.may,h] at h1
  by_cases h2:1500<d.b.length+m.length
  ·have e:d.append x m=(d,8):=by rw [Dsk.append,if_neg hx,if_pos h2]
   rw [e];clear e
   have H1:=zH h1;clear h1 hx
   go_enter Tryz.func137,Tryz.ntmps137
   go_wp2_with (go_at_call 134;refine (may_any b d _ x _ HH.out).mono ?_;rw [H1.out];rintro e w' ⟨rfl,rfl⟩)
   go_ret
   exact ⟨_,rfl,HH.out,Upd.refl _ _,From.refl _ _⟩
  ·have e:d.append x m=(⟨d.ep,d.b++m⟩,0):=by rw [Dsk.append,if_neg hx,if_neg h2]
   rw [e];clear e
   have H1:=zH h1;clear h1 hx
   obtain ⟨i0,hi,hz0,hz1,hz2⟩:=info_parts Tryz.infoU8
   go_enter Tryz.func137,Tryz.ntmps137
   go_wp2_with (first|(go_at_call 134;refine (may_any b d _ x _ HH.out).mono ?_;rw [H1.out];rintro e w' ⟨rfl,rfl⟩)|(at_builtin;refine wpList_append_bytes (v:=.slice va d.b.length vc) rfl _ _ 42 rfl 5 i0 Tryz.underlying42 hi hz0 hz1 hz2 rfl rfl rfl HV.out HY.out (by omega) ?_;intro v' w' hv' hu hfr;have hb':=HB.out.upd hu (fun hk=>HV.out.ne HB.out (by decide) b hk rfl);have c':=hb'.cells;have f':=hb'.frees;obtain ⟨va',vc',e',_⟩:=hv'.bytes;rw [List.length_append] at e';subst e';have HB':=zH hb';have HV':=zH hv';have HU:=zH hu;have HF:=zH hfr;clear hb' hv' hu hfr c f))
   go_ret
   exact ⟨_,rfl,⟨_,HB'.out.set 1 _,HV'.out.upd (Upd.setCell (F:=fun k=>k=b) (Upd.refl _ _) (.inl rfl) _) (HV'.out.ne HB'.out (by decide)),rfl⟩,Upd.setCell (HU.out.mono fun k hk=>.inr hk) (.inl (.inl rfl)) _,by
    rintro k (rfl|hk)
    ·exact .inl (.inl rfl)
    ·rcases HF.out k hk with h|h
     ·exact .inl (.inr h)
     ·exact .inr h⟩
 ·have e:d.append x m=(d,9):=by
   rw [Dsk.append,if_pos]
   exact Classical.byContradiction fun h=>h1 (by rw [Dsk.may,if_neg h])
  have e9:d.may x=9:=by
   unfold Dsk.may at h1 ⊢
   split
   ·rfl
   ·rename_i h;rw [if_neg h] at h1;exact absurd rfl h1
  rw [e];clear e
  have H1:=zH e9;clear h1 e9
  go_enter Tryz.func137,Tryz.ntmps137
  go_wp2_with (go_at_call 134;refine (may_any b d _ x _ HH.out).mono ?_;rw [H1.out];rintro e w' ⟨rfl,rfl⟩)
  go_ret
  exact ⟨_,rfl,HH.out,Upd.refl _ _,From.refl _ _⟩
theorem cut_any (b:Nat) (d:Dsk) (F:Nat→Prop) (x n:Int) (w:World) (h:DiskAt w b d F) (hok:d.Ok) :
  Calls Tryz.prog 122 #[.pointer (some ⟨b,0,none⟩),zI zi x,zI zi n] w (DiskPost w b F (d.cut x n).1 (zI zi (d.cut x n).2)):=by
 have HH:=zH h
 obtain ⟨v,hb,hv,rfl⟩:=h
 have HB:=zH hb
 have HV:=zH hv
 have c:=hb.cells
 have f:=hb.frees
 have hl:=hok.b
 by_cases h1:d.may x=0
 ·have hx:¬ (x<1∨x≠d.ep):=by intro h;simp [Dsk.may,h] at h1
  by_cases h2:n<0∨(d.b.length:Int)<n
  ·have e:d.cut x n=(d,3):=by rw [Dsk.cut,if_neg hx,if_pos h2]
   rw [e];clear e
   have H1:=zH h1;clear h1 hx
   obtain ⟨va,vc,rfl,_⟩:∃ a c,v=.slice a d.b.length c∧True:=by obtain ⟨a,c,h,_⟩:=hv.bytes;exact ⟨a,c,h,trivial⟩
   clear hb hv hok
   rcases h2 with h2|h2
   ·go_enter Tryz.func122,Tryz.ntmps122
    go_wp2_with (go_at_call 134;refine (may_any b d _ x _ HH.out).mono ?_;rw [H1.out];rintro e w' ⟨rfl,rfl⟩)
    go_ret
    exact ⟨_,rfl,HH.out,Upd.refl _ _,From.refl _ _⟩
   ·have h3:¬ n<0:=by omega
    go_enter Tryz.func122,Tryz.ntmps122
    go_wp2_with (go_at_call 134;refine (may_any b d _ x _ HH.out).mono ?_;rw [H1.out];rintro e w' ⟨rfl,rfl⟩)
    go_ret
    exact ⟨_,rfl,HH.out,Upd.refl _ _,From.refl _ _⟩
  ·have e:d.cut x n=(⟨d.ep,d.b.take n.toNat⟩,0):=by rw [Dsk.cut,if_neg hx,if_neg h2]
   rw [e];clear e
   have H1:=zH h1;clear h1 hx
   obtain ⟨q,rfl⟩:=Int.eq_ofNat_of_zero_le (show 0≤n by omega)
   have h3:q≤d.b.length:=by omega
   clear h2
   rw [Int.toNat_natCast]
   rcases hv with ⟨rfl,hnil⟩|⟨g,cap,cur,rfl,hg,g1,g2,g3,g4⟩
   ·have hq:q=0:=by rw [hnil] at h3;simpa using h3
    subst hq
    have HN:=zH hnil;clear hnil hb hok
    go_enter Tryz.func122,Tryz.ntmps122
    go_wp2_with (go_at_call 134;refine (may_any b d _ x _ HH.out).mono ?_;rw [H1.out];rintro e w' ⟨rfl,rfl⟩)
    go_ret
    exact ⟨_,rfl,⟨_,HB.out.set 1 _,.inl ⟨rfl,by simp⟩,rfl⟩,Upd.setCell (Upd.refl _ _) (.inl (.inl rfl)) _,From.refl _ _⟩
   ·clear hb hok
    have HG:=zH hg;clear hg
    have G4:=zH g4;clear g4
    go_enter Tryz.func122,Tryz.ntmps122
    go_wp2_with (go_at_call 134;refine (may_any b d _ x _ HH.out).mono ?_;rw [H1.out];rintro e w' ⟨rfl,rfl⟩)
    go_ret
    exact ⟨_,rfl,⟨_,HB.out.set 1 _,OwnB.upd (HV.out.cut h3) (Upd.setCell (F:=fun k=>k=b) (Upd.refl _ _) (.inl rfl) _) (OwnB.ne (HV.out.cut h3) HB.out (by decide)),rfl⟩,Upd.setCell (Upd.refl _ _) (.inl (.inl rfl)) _,From.refl _ _⟩
 ·have e:d.cut x n=(d,9):=by
   rw [Dsk.cut,if_pos]
   exact Classical.byContradiction fun h=>h1 (by rw [Dsk.may,if_neg h])
  have e9:d.may x=9:=by
   unfold Dsk.may at h1 ⊢
   split
   ·rfl
   ·rename_i h;rw [if_neg h] at h1;exact absurd rfl h1
  rw [e];clear e
  have H1:=zH e9;clear h1 e9 hb hv hok
  go_enter Tryz.func122,Tryz.ntmps122
  go_wp2_with (go_at_call 134;refine (may_any b d _ x _ HH.out).mono ?_;rw [H1.out];rintro e w' ⟨rfl,rfl⟩)
  go_ret
  exact ⟨_,rfl,HH.out,Upd.refl _ _,From.refl _ _⟩
def NewBytes (w:World) (l:List UInt8) (e:Ending) (w':World):Prop:=
 ∃ v,e=.returned v∧OwnB w' v l∧Below w.heap.size w w'∧∀ k,v.ownBlock=some k→w.heap.size≤k
theorem clone_any (v:Value) (l:List UInt8) (w:World) (h:BytesAt w v l) (hl:l.length≤140737488355328) :
  Calls Tryz.prog 76 #[v] w (NewBytes w l):=by
 have HH:=zH h
 obtain ⟨a,c,rfl,h1,h2,h3,h4⟩:=h
 cases a with
 | none=>
  obtain rfl:=h3 rfl
  have e:l=[]:=List.eq_nil_of_length_eq_zero (by omega)
  subst e
  clear h1 h2 h3 h4
  have hn:=fun (w:World) a n c=>Lib.run_eql_slice_nil (P:=Tryz.prog) w 42 5 a n c 0 0 Tryz.underlying42
  go_enter Tryz.func76,Tryz.ntmps76
  go_wp2
  go_ret
  exact ⟨_,rfl,OwnB.nil _,Below.refl _ _,by simp [Value.ownBlock]⟩
 | some a=>
  clear h3 h4
  have hn:=fun (w:World) a n c=>Lib.run_eql_slice_nil (P:=Tryz.prog) w 42 5 a n c 0 0 Tryz.underlying42
  have hb:OwnB (w.alloc (.cells #[] 5)) (.slice (some ⟨w.heap.size,0,none⟩) 0 0) []:=.inr ⟨_,0,[],rfl,BlockAt.new w 5 [],Nat.le_refl _,Nat.le_refl _,Nat.zero_le _,rfl⟩
  have HB:=zH hb;clear hb
  have hy:BytesAt (w.alloc (.cells #[] 5)) (.slice (some a) l.length c) l:=HH.out.upd (Upd.alloc (F:=fun _=>False) (Upd.refl _ w) _) (fun _ _ h=>h)
  have HY:=zH hy;clear hy
  obtain ⟨i0,hi,hz0,hz1,hz2⟩:=info_parts Tryz.infoU8
  go_enter Tryz.func76,Tryz.ntmps76
  go_wp2_with (at_builtin;refine wpList_append_bytes (v:=.slice (some ⟨w.heap.size,0,none⟩) 0 0) (l:=[]) (m:=l) rfl _ _ 42 rfl 5 i0 Tryz.underlying42 hi hz0 hz1 hz2 rfl rfl rfl HB.out HY.out (by simpa using hl) ?_;intro v' w' hv' hu hfr)
  go_ret
  exact ⟨_,rfl,hv',((Upd.alloc (F:=fun _=>False) (Upd.refl _ w) (.cells #[] 5)).trans hu (fun k hk=>by simp [Value.ownBlock] at hk;omega)).below (Nat.le_refl _) (fun _ h=>h.elim),fun k hk=>by
   rcases hfr k hk with h|h
   ·simp [Value.ownBlock] at h;omega
   ·simp at h;omega⟩
theorem bytes_any (b:Nat) (d:Dsk) (F:Nat→Prop) (w:World) (h:DiskAt w b d F) (hok:d.Ok) :
  Calls Tryz.prog 52 #[.pointer (some ⟨b,0,none⟩)] w (NewBytes w d.b):=by
 obtain ⟨v,hb,hv,rfl⟩:=h
 have c:=hb.cells
 have hl:=hok.b
 have HV:=zH hv.bytes
 obtain ⟨a,vc,rfl,_⟩:=hv.bytes
 clear hb hv hok
 go_enter Tryz.func52,Tryz.ntmps52
 go_wp2_with fail
 refine (clone_any _ d.b _ HV.out (by omega)).mono ?_
 rintro e w' ⟨v',rfl,h1,h2,h3⟩
 go_wp2
 go_ret
 exact ⟨_,rfl,h1,h2,h3⟩
def PlateAt (w:World) (b:Nat) (ty:TypeId) (rest:List Value) (d:Dsk) (F:Nat→Prop):Prop:=
 ty≠5∧∃ v,BlockAt w b ty (zI zi d.ep::v::rest)∧OwnB w v d.b∧F=fun k=>k=b∨v.ownBlock=some k
theorem PlateAt.inW {w:World} {b:Nat} {ty:TypeId} {rest:List Value} {d:Dsk} {F:Nat→Prop} (h:PlateAt w b ty rest d F):In w F:=by
 obtain ⟨_,v,hb,hv,rfl⟩:=h
 rintro k (rfl|hk)
 ·exact hb.lt
 ·exact hv.lt hk
theorem PlateAt.upd {G:Nat→Prop} {w w':World} {b:Nat} {ty:TypeId} {rest:List Value} {d:Dsk} {F:Nat→Prop} (h:PlateAt w b ty rest d F) (hu:Upd G w w') (hs:Sep F G):PlateAt w' b ty rest d F:=by
 obtain ⟨ht,v,hb,hv,rfl⟩:=h
 exact ⟨ht,v,hb.upd hu (hs b (.inl rfl)),hv.upd hu fun k hk=>hs k (.inr hk),rfl⟩
def PlatePost (w:World) (b:Nat) (ty:TypeId) (rest:List Value) (F:Nat→Prop) (d:Dsk) (v:Value) (e:Ending) (w':World):Prop:=
 ∃ F',e=.returned v∧PlateAt w' b ty rest d F'∧Upd F w w'∧From w F F'
theorem praise_any (b:Nat) (ty:TypeId) (rest:List Value) (d:Dsk) (F:Nat→Prop) (w:World) (h:PlateAt w b ty rest d F) (hok:d.Ok) :
  Calls Tryz.prog 89 #[.pointer (some ⟨b,0,none⟩)] w (PlatePost w b ty rest F d.raise.1 (.tuple #[zI zi d.raise.2.1,zI zi d.raise.2.2])):=by
 have HH:=zH h
 obtain ⟨hty,v,hb,hv,rfl⟩:=h
 have c0:=hb.cell 0 _ rfl
 have f:=hb.frees
 have h0:=hok.ep.1
 have h1:=hok.ep.2
 have HB:=zH hb
 have HV:=zH hv
 have HT:=zH hty
 clear hb hv hok hty
 by_cases hr:100≤d.ep
 ·have e:d.raise=(d,0,8):=by simp [Dsk.raise,hr]
  rw [e];clear e
  go_enter Tryz.func89,Tryz.ntmps89
  go_wp2
  go_ret2
  exact ⟨_,rfl,HH.out,Upd.refl _ _,From.refl _ _⟩
 ·have e:d.raise=(⟨d.ep+1,d.b⟩,d.ep+1,0):=by simp [Dsk.raise,hr]
  rw [e];clear e
  go_enter Tryz.func89,Tryz.ntmps89
  go_wp2
  go_ret2
  exact ⟨_,rfl,⟨HT.out,v,HB.out.set 0 _,HV.out.upd (Upd.setCell (F:=fun k=>k=b) (Upd.refl _ w) (.inl rfl) _) (HV.out.ne HB.out HT.out),rfl⟩,Upd.setCell (Upd.refl _ _) (.inl (.inl rfl)) _,From.refl _ _⟩
theorem pappend_any (b:Nat) (ty:TypeId) (rest:List Value) (d:Dsk) (F:Nat→Prop) (x:Int) (y:Value) (m:List UInt8) (w:World) (h:PlateAt w b ty rest d F) (hok:d.Ok) (hy:BytesAt w y m) (hm:m.length≤100000) :
  Calls Tryz.prog 95 #[.pointer (some ⟨b,0,none⟩),zI zi x,y] w (PlatePost w b ty rest F (d.append x m).1 (zI zi (d.append x m).2)):=by
 have HH:=zH h
 have HY:=zH hy
 obtain ⟨hty,v,hb,hv,rfl⟩:=h
 have HB:=zH hb
 have HV:=zH hv
 have HT:=zH hty
 have c0:=hb.cell 0 _ rfl
 have c1:=hb.cell 1 _ rfl
 have f:=hb.frees
 have hl:=hok.b
 obtain ⟨va,vc,rfl,_⟩:∃ a c,v=.slice a d.b.length c∧True:=by obtain ⟨a,c,h,_⟩:=hv.bytes;exact ⟨a,c,h,trivial⟩
 obtain ⟨ya,yc,rfl,_⟩:∃ a c,y=.slice a m.length c∧True:=by obtain ⟨a,c,h,_⟩:=hy;exact ⟨a,c,h,trivial⟩
 clear hb hv hok hy hty
 by_cases h1:x<1
 ·have e:d.append x m=(d,9):=by rw [Dsk.append,if_pos (.inl h1)]
  rw [e];clear e
  go_enter Tryz.func95,Tryz.ntmps95
  go_wp2
  go_ret
  exact ⟨_,rfl,HH.out,Upd.refl _ _,From.refl _ _⟩
 ·by_cases h2:x=d.ep
  ·have hx:¬ (x<1∨x≠d.ep):=by omega
   have h3:(x != d.ep)=false:=by simpa using h2
   clear h2
   by_cases h4:1500<d.b.length+m.length
   ·have e:d.append x m=(d,8):=by rw [Dsk.append,if_neg hx,if_pos h4]
    rw [e];clear e hx
    go_enter Tryz.func95,Tryz.ntmps95
    go_wp2
    go_ret
    exact ⟨_,rfl,HH.out,Upd.refl _ _,From.refl _ _⟩
   ·have e:d.append x m=(⟨d.ep,d.b++m⟩,0):=by rw [Dsk.append,if_neg hx,if_neg h4]
    rw [e];clear e hx
    obtain ⟨i0,hi,hz0,hz1,hz2⟩:=info_parts Tryz.infoU8
    have HN:=zH (OwnB.nil w)
    go_enter Tryz.func95,Tryz.ntmps95
    go_wp2_with (first|(at_builtin;refine wpList_append_bytes (v:=.slice none 0 0) (l:=[]) (m:=d.b) rfl _ _ 42 rfl 5 i0 Tryz.underlying42 hi hz0 hz1 hz2 rfl rfl rfl HN.out HV.out.bytes (by simp;omega) ?_;intro v1 w1 hv1 hu1 hf1;have HV1:=zH hv1;have HU1:=zH hu1;have HF1:=zH hf1;have HB1:=zH (HB.out.upd hu1 (fun h=>by simp [Value.ownBlock] at h));have HY1:=zH (HY.out.upd hu1 (fun _ _ h=>by simp [Value.ownBlock] at h));clear hv1 hu1 hf1 c0 c1 f)|(at_builtin;refine wpList_append_bytes (v:=v1) (l:=[]++d.b) (m:=m) rfl _ _ 42 rfl 5 i0 Tryz.underlying42 hi hz0 hz1 hz2 rfl rfl rfl HV1.out HY1.out (by simp;omega) ?_;intro v2 w2 hv2 hu2 hf2;have hb2:=HB1.out.upd hu2 (fun hk=>by rcases HF1.out b hk with h|h;exact absurd h (by simp [Value.ownBlock]);exact absurd HB.out.lt (by omega));have c2:=hb2.cell 0 _ rfl;have c3:=hb2.cell 1 _ rfl;have f2:=hb2.frees;rw [List.nil_append] at hv2;obtain ⟨va',vc',e',_⟩:=hv2.bytes;rw [List.length_append] at e';subst e';have HB2:=zH hb2;have HV2:=zH hv2;have HU2:=zH hu2;have HF2:=zH hf2;clear hb2 hv2 hu2 hf2))
    go_ret
    refine ⟨_,rfl,⟨HT.out,_,HB2.out.set 1 _,HV2.out.upd (Upd.setCell (F:=fun k=>k=b) (Upd.refl _ _) (.inl rfl) _) (HV2.out.ne HB2.out HT.out),rfl⟩,Upd.setCell ?_ (.inl (.inl rfl)) _,?_⟩
    ·refine (HU1.out.mono fun k hk=>?_).trans HU2.out fun k hk=>?_
     ·simp [Value.ownBlock] at hk
     ·rcases HF1.out k hk with h|h
      ·simp [Value.ownBlock] at h
      ·exact .inr h
    ·rintro k (rfl|hk)
     ·exact .inl (.inl rfl)
     ·rcases HF2.out k hk with h|h
      ·rcases HF1.out k h with h|h
       ·simp [Value.ownBlock] at h
       ·exact .inr h
      ·have:=HU1.out.size;exact .inr (by omega)
  ·have e:d.append x m=(d,9):=by rw [Dsk.append,if_pos (.inr h2)]
   rw [e];clear e
   have h3:(x != d.ep)=true:=by simpa using h2
   clear h2
   go_enter Tryz.func95,Tryz.ntmps95
   go_wp2
   go_ret
   exact ⟨_,rfl,HH.out,Upd.refl _ _,From.refl _ _⟩
theorem pcut_any (b:Nat) (ty:TypeId) (rest:List Value) (d:Dsk) (F:Nat→Prop) (x n:Int) (w:World) (h:PlateAt w b ty rest d F) (hok:d.Ok) :
  Calls Tryz.prog 91 #[.pointer (some ⟨b,0,none⟩),zI zi x,zI zi n] w (PlatePost w b ty rest F (d.cut x n).1 (zI zi (d.cut x n).2)):=by
 have HH:=zH h
 obtain ⟨hty,v,hb,hv,rfl⟩:=h
 have HB:=zH hb
 have HV:=zH hv
 have HT:=zH hty
 have c0:=hb.cell 0 _ rfl
 have c1:=hb.cell 1 _ rfl
 have f:=hb.frees
 have hl:=hok.b
 by_cases h1:x<1
 ·have e:d.cut x n=(d,9):=by rw [Dsk.cut,if_pos (.inl h1)]
  rw [e];clear e
  clear hb hv hok hty
  go_enter Tryz.func91,Tryz.ntmps91
  go_wp2
  go_ret
  exact ⟨_,rfl,HH.out,Upd.refl _ _,From.refl _ _⟩
 ·by_cases h2:x=d.ep
  ·have hx:¬ (x<1∨x≠d.ep):=by omega
   have h3:(x != d.ep)=false:=by simpa using h2
   clear h2
   by_cases h4:n<0∨(d.b.length:Int)<n
   ·have e:d.cut x n=(d,3):=by rw [Dsk.cut,if_neg hx,if_pos h4]
    rw [e];clear e hx
    obtain ⟨va,vc,rfl,_⟩:∃ a c,v=.slice a d.b.length c∧True:=by obtain ⟨a,c,h,_⟩:=hv.bytes;exact ⟨a,c,h,trivial⟩
    clear hb hv hok hty
    rcases h4 with h4|h4
    ·go_enter Tryz.func91,Tryz.ntmps91
     go_wp2
     go_ret
     exact ⟨_,rfl,HH.out,Upd.refl _ _,From.refl _ _⟩
    ·have h5:¬ n<0:=by omega
     go_enter Tryz.func91,Tryz.ntmps91
     go_wp2
     go_ret
     exact ⟨_,rfl,HH.out,Upd.refl _ _,From.refl _ _⟩
   ·have e:d.cut x n=(⟨d.ep,d.b.take n.toNat⟩,0):=by rw [Dsk.cut,if_neg hx,if_neg h4]
    rw [e];clear e hx
    obtain ⟨q,rfl⟩:=Int.eq_ofNat_of_zero_le (show 0≤n by omega)
    have h5:q≤d.b.length:=by omega
    clear h4
    rw [Int.toNat_natCast]
    rcases hv with ⟨rfl,hnil⟩|⟨g,cap,cur,rfl,hg,g1,g2,g3,g4⟩
    ·have hq:q=0:=by rw [hnil] at h5;simpa using h5
     subst hq
     have HN:=zH hnil;clear hnil hb hok hty
     go_enter Tryz.func91,Tryz.ntmps91
     go_wp2
     go_ret
     exact ⟨_,rfl,⟨HT.out,_,HB.out.set 1 _,.inl ⟨rfl,by simp⟩,rfl⟩,Upd.setCell (Upd.refl _ _) (.inl (.inl rfl)) _,From.refl _ _⟩
    ·clear hb hok hty
     have HG:=zH hg;clear hg
     have G4:=zH g4;clear g4
     go_enter Tryz.func91,Tryz.ntmps91
     go_wp2
     go_ret
     exact ⟨_,rfl,⟨HT.out,_,HB.out.set 1 _,OwnB.upd (HV.out.cut h5) (Upd.setCell (F:=fun k=>k=b) (Upd.refl _ _) (.inl rfl) _) (OwnB.ne (HV.out.cut h5) HB.out HT.out),rfl⟩,Upd.setCell (Upd.refl _ _) (.inl (.inl rfl)) _,From.refl _ _⟩
  ·have e:d.cut x n=(d,9):=by rw [Dsk.cut,if_pos (.inr h2)]
   rw [e];clear e
   have h3:(x != d.ep)=true:=by simpa using h2
   clear h2 hb hv hok hty
   go_enter Tryz.func91,Tryz.ntmps91
   go_wp2
   go_ret
   exact ⟨_,rfl,HH.out,Upd.refl _ _,From.refl _ _⟩
end Go.Proofs.YtfihmpkkpgmdhaaGreatDoor
