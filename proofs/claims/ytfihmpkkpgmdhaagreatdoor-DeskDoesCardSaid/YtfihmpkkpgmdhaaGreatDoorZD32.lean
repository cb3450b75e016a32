/-
  What the proof of DeskDoes leans on: definitions, laws, contracts of functions. No condition besides those that each theorem names.
-/
import Derived.Test.YtfihmpkkpgmdhaaGreatDoorZD30
set_option maxRecDepth 100000
set_option maxHeartbeats 16000000
set_option linter.unusedVariables false
set_option linter.unusedSimpArgs false
set_option linter.unnecessarySimpa false
namespace Go.Proofs.YtfihmpkkpgmdhaaGreatDoor
open Go.RowKit
open List renaming setIfInBounds_toArray → zA, set_cons_zero → zB, set_cons_succ → zC
open Go.Act renaming put → zP
open Go.Lib renaming hid → zH
open Go.Value renaming int → zI
open Go.IntKind renaming i64 → zi
def rst (b bc:Nat) (told:List UInt8):HP:=bl b 55 [.string (strOf told),.pointer (some ⟨bc,0,none⟩)]
theorem rsay_sl (b bc:Nat) (told s:List UInt8) (w:World) {R:HP} (h:Holds w (rst b bc told*R)) (ht:told.length≤500000000) (hs:s.length≤500000000) :
  Calls Tryz.prog 30 #[.pointer (some ⟨b,0,none⟩),.string (strOf s)] w fun e w'=>e=.returned (.tuple #[])∧Quiet w w'∧Holds w' (rst b bc (told++line s)*R):=by
 have H:=zH h
 have c0:w.cell? ⟨b,0,none⟩=some (.string (strOf told)):=h.bl.cell 0 _ rfl
 have f0:=h.bl.free 0
 have e1:strOf told++(strOf s++(⟨#[10]⟩:ByteArray))=strOf (told++line s):=by
  rw [show (⟨#[10]⟩:ByteArray)=strOf [10] from rfl,strOf_append,strOf_append];rfl
 have E1:=zH e1
 obtain ⟨T,hT⟩:∃ T,strOf told=T:=⟨_,rfl⟩
 obtain ⟨S,hS⟩:∃ S,strOf s=S:=⟨_,rfl⟩
 have z1:T.size≤500000000:=by rw [←hT,strOf_size];exact ht
 have z2:S.size≤500000000:=by rw [←hS,strOf_size];exact hs
 rw [hT] at c0
 rw [hS]
 have HT:=zH hT;have HS:=zH hS
 clear h e1 hT hS
 go_enter Tryz.func30,Tryz.ntmps30
 go_wp2
 go_end0
 refine ⟨rfl,(Quiet.refl w).setCell _ _,?_⟩
 have:=H.out.setB 0 (.string (T++(S++(⟨#[10]⟩:ByteArray))))
 rw [←HT.out,←HS.out,E1.out] at this
 rw [←HT.out,←HS.out,E1.out]
 exact this
theorem ris_sl (q4 q9 g off len cap nn cn:Nat) (an:Option Addr) (x y:List UInt8) (m:Int) (w:World) (h4:w.cell? ⟨q4,0,none⟩=some (.slice (some ⟨g,off,none⟩) len cap)) (h0:0<len) (hx:w.cell? ⟨g,off,none⟩=some (.string (strOf x))) (h9:w.cell? ⟨q9,0,none⟩=some (.slice an nn cn)) :
  Calls Tryz.prog 33 #[.string (strOf y),zI zi m,.pointer (some ⟨q4,0,none⟩),.pointer (some ⟨q9,0,none⟩)] w fun e w'=>e=.returned (.bool (decide (x=y)&&decide ((nn:Int)=m)))∧w'=w:=by
 have h1:(0:Int)<(len:Int):=by omega
 have hb:((strOf x).toList==(strOf y).toList)=decide (x=y):=by
  by_cases e:x=y
  ·subst e;simp
  ·have:((strOf x).toList==(strOf y).toList)=false:=by
    have hy:(strOf y).toList=y:=by simpa using bytes_yes y
    rw [hy];exact bytes_no e
   rw [this];simp [e]
 by_cases e:x=y
 ·rw [decide_eq_true e] at hb ⊢
  clear e
  go_enter Tryz.func33,Tryz.ntmps33
  go_wp2
  all_goals (go_ret;exact ⟨by first|rfl|(simp;done)|(congr 2;by_cases hm:(nn:Int)=m<;>simp [hm]),rfl⟩)
 ·rw [decide_eq_false e] at hb ⊢
  clear e
  go_enter Tryz.func33,Tryz.ntmps33
  go_wp2
  all_goals (go_ret;exact ⟨by first|rfl|(simp;done)|(congr 2;by_cases hm:(nn:Int)=m<;>simp [hm]),rfl⟩)
theorem Tryz.infoStr:(Tryz.prog.info? 9).map (fun i=>(i.zero,i.size,i.bytes))=some (some (.string ByteArray.empty),1,16):=by kernel_rfl
theorem svls_ones (l:List (List UInt8)):Ones (svls l):=fun v hv=>by
 obtain ⟨x,_,rfl⟩:=List.mem_map.1 hv
 rfl
theorem svls_append' (l m:List (List UInt8)):svls (l++m)=svls l++svls m:=by simp [svls]
theorem str_get {s:List UInt8} {S:ByteArray} {k:Nat} {b:UInt8} (h:strOf s=S) (hb:s[k]? = some b) (hk:k<S.size):S[k]'hk=b:=by
 subst h
 obtain ⟨h1,h2⟩:=List.getElem?_eq_some_iff.1 hb
 rw [←h2]
 rfl
theorem str_one {s:List UInt8} {k:Nat} {b:UInt8} (hb:s[k]? = some b):(strOf s).extract k (k+1)=strOf [b]:=by
 apply ByteArray.ext
 simp only [strOf,ByteArray.data_extract,List.extract_toArray]
 congr 1
 obtain ⟨h1,h2⟩:=List.getElem?_eq_some_iff.1 hb
 rw [List.extract_eq_take_drop,Nat.add_sub_cancel_left,List.drop_eq_getElem_cons h1,h2]
 rfl
theorem wordsFrom_cons (w:List UInt8) (b:UInt8) (l:List UInt8):wordsFrom w (b::l)=if b=32 then (if w=[] then wordsFrom [] l else w::wordsFrom [] l) else wordsFrom (w++[b]) l:=by
 conv=>lhs;unfold wordsFrom
theorem rwords_sl (s : List UInt8) (w : World) (hs : s.length ≤ 100000) {R : HP} (h : Holds w R) :
    Calls Tryz.prog 29 #[.string (strOf s)] w (PostX w R (fun v => v) fun v => wds v (words s)) := by
  have H := zH h; clear h
  obtain ⟨i0, hi, hz0, hz1, hz2⟩ := info_parts Tryz.infoStr
  have HI := zH hi; have HZ0 := zH hz0; have HZ1 := zH hz1; have HZ2 := zH hz2
  clear hi hz0 hz1 hz2
  have hsz := strOf_size s
  obtain ⟨S, hS⟩ : ∃ S, strOf s = S := ⟨_, rfl⟩
  rw [hS] at hsz ⊢
  have HS := zH hS; have HSZ := zH hsz
  have hsl : S.size ≤ 100000 := by omega
  clear hS hsz
  go_enter Tryz.func29, Tryz.ntmps29
  go_wp2
  go_loopw [3, 4, 5] (fun vo vw vi wr => ∃ (k : Nat) (out : List (List UInt8)) (cur : List UInt8), k ≤ s.length + 1 ∧ out.length ≤ k ∧ cur.length ≤ k ∧ vw = .string (strOf cur) ∧ vi = zI zi k ∧ Hid (k ≤ s.length → out ++ wordsFrom cur (s.drop k) = words s) ∧ Hid (s.length < k → out = words s) ∧ Holds wr (rw_ 9 1 vo out.length (svls out) * R) ∧ Quiet w wr) (fun _ _ vi _ => s.length + 1 - (intOf vi).toNat)
  case atStart => exact ⟨0, [], [], by omega, by simp, by simp, rfl, rfl, zH (fun _ => rfl), zH (fun e => by omega), H.out.nilRow _ _, Quiet.refl _⟩
  case round =>
    obtain ⟨k, out, cur, hk, ho, hcu, rfl, rfl, HA, HB, hh, hq⟩ := hrel
    obtain ⟨sa, sc, rfl, -, -⟩ := hh.row.shape
    have HH := zH hh; have HQ := zH hq
    clear hh hq
    obtain ⟨wo, rfl⟩ : ∃ wo : World, wo = wr := ⟨_, rfl⟩
    have hcz := strOf_size cur
    have hbe : ((strOf cur).toList == []) = decide (cur = []) := by
      by_cases e : cur = []
      · subst e; exact (bytes_yes []).trans (by simp)
      · rw [decide_eq_false e]; exact bytes_no e
    obtain ⟨C, hC⟩ : ∃ C, strOf cur = C := ⟨_, rfl⟩
    rw [hC] at hcz hbe ⊢
    have HC := zH hC; have HCZ := zH hcz
    have hcl : C.size ≤ 100001 := by omega
    clear hC hcz
    by_cases hlt : k < s.length
    · obtain ⟨b, hb⟩ : ∃ b, s[k]? = some b := ⟨_, List.getElem?_eq_getElem hlt⟩
      have hdr : s.drop k = b :: s.drop (k + 1) := by
        rw [List.drop_eq_getElem_cons hlt]
        rw [List.getElem?_eq_getElem hlt] at hb
        rw [Option.some.inj hb]
      have hA := HA.out (by omega)
      rw [hdr, wordsFrom_cons] at hA
      have hkS : k < S.size := by rw [HSZ.out]; exact hlt
      have hkZ : (k : Int) < (S.size : Int) := by omega
      have hg : S[k]'hkS = b := str_get HS.out hb hkS
      have hex : S.extract k (k + 1) = strOf [b] := by rw [← HS.out]; exact str_one hb
      by_cases hb32 : b = 32
      · subst hb32
        rw [if_pos rfl] at hA
        have hbt : ((S[k]'hkS).toNat : Int) = 32 := by rw [hg]; rfl
        by_cases hc0 : cur = []
        · rw [decide_eq_true hc0] at hbe
          rw [if_pos hc0] at hA
          have HAA := zH hA
          clear hA hdr hb hex hg hc0
          go_wp2_with fail
          go_roundw
          case rel => exact ⟨k + 1, out, [], by omega, by omega, by simp, rfl, by go_num, zH (fun _ => HAA.out), zH (fun e => by omega), HH.out, HQ.out⟩
          case measure => simp [intOf]; omega
        · rw [decide_eq_false hc0] at hbe
          rw [if_neg hc0] at hA
          have HAA := zH hA
          have H2 := zH (HH.out.alloc (.cells #[.string C] 9))
          have hrow : RowAt (wo.alloc (.cells #[.string C] 9)) (.slice (some ⟨wo.heap.size, 0, none⟩) 1 1) 1 (svls [cur]) := svls_row (l := [cur]) rfl (by simp) _ (by simp [svls, HC.out]) _
          have HROW := zH hrow
          clear hA hdr hb hex hg hc0 hrow
          go_wp2_with (at_builtin; refine wpList_append_sl (n := out.length) (m := 1) rfl _ _ 22 rfl 9 i0 _ 1 16 Tryz.underlying22 HI.out HZ0.out HZ1.out HZ2.out rfl (by decide) rfl rfl H2.out HROW.out rfl (svls_ones [cur]) (by omega) (by omega) ?_; intro v' w3 h3 q3; have H3 := zH h3; have Q3 := zH q3; clear h3 q3)
          go_roundw
          case rel => exact ⟨k + 1, out ++ [cur], [], by omega, by simp; omega, by simp, rfl, by go_num, zH (fun _ => by rw [← HAA.out]; simp), zH (fun e => by omega), by rw [List.length_append, svls_append']; exact H3.out, HQ.out.trans (((Quiet.refl _).alloc _).trans Q3.out)⟩
          case measure => simp [intOf]; omega
      · rw [if_neg hb32] at hA
        have HAA := zH hA
        have hbt : ¬ ((S[k]'hkS).toNat : Int) = 32 := by
          rw [hg]
          intro e
          exact hb32 (UInt8.toNat_inj.1 (by have : b.toNat = 32 := by omega
                                            rw [this]; rfl))
        have hst : strOf (cur ++ [b]) = C ++ S.extract k (k + 1) := by rw [hex, ← HC.out, strOf_append]
        have HST := zH hst
        have hez : (S.extract k (k + 1)).size ≤ 1 := by rw [hex, strOf_size]; simp
        clear hA hdr hb hex hg hst
        go_wp2_with fail
        go_roundw
        case rel => exact ⟨k + 1, out, cur ++ [b], by omega, by omega, by simp; omega, by rw [HST.out], by go_num, zH (fun _ => HAA.out), zH (fun e => by omega), HH.out, HQ.out⟩
        case measure => simp [intOf]; omega
    · by_cases hke : k = s.length
      · have hA := HA.out (by omega)
        rw [List.drop_of_length_le (by omega)] at hA
        have hkS : (k : Int) = (S.size : Int) := by rw [HSZ.out, hke]
        have hk1 : (k : Int) ≤ (S.size : Int) := by omega
        have hk2 : ¬ (k : Int) < (S.size : Int) := by omega
        have HK := zH hke
        clear hkS hke hlt
        by_cases hc0 : cur = []
        · rw [decide_eq_true hc0] at hbe
          have hB : out = words s := by rw [← hA, hc0]; simp [wordsFrom]
          have HBB := zH hB
          clear hA hc0 hB
          go_wp2_with fail
          go_roundw
          case rel => exact ⟨k + 1, out, [], by have := HK.out; omega, by omega, by simp, rfl, by go_num, zH (fun e => by have := HK.out; omega), zH (fun _ => HBB.out), HH.out, HQ.out⟩
          case measure => have := HK.out; simp [intOf]; omega
        · rw [decide_eq_false hc0] at hbe
          have hB : out ++ [cur] = words s := by rw [← hA]; simp [wordsFrom, hc0]
          have HBB := zH hB
          have H2 := zH (HH.out.alloc (.cells #[.string C] 9))
          have hrow : RowAt (wo.alloc (.cells #[.string C] 9)) (.slice (some ⟨wo.heap.size, 0, none⟩) 1 1) 1 (svls [cur]) := svls_row (l := [cur]) rfl (by simp) _ (by simp [svls, HC.out]) _
          have HROW := zH hrow
          clear hA hc0 hB hrow
          go_wp2_with (at_builtin; refine wpList_append_sl (n := out.length) (m := 1) rfl _ _ 22 rfl 9 i0 _ 1 16 Tryz.underlying22 HI.out HZ0.out HZ1.out HZ2.out rfl (by decide) rfl rfl H2.out HROW.out rfl (svls_ones [cur]) (by omega) (by omega) ?_; intro v' w3 h3 q3; have H3 := zH h3; have Q3 := zH q3; clear h3 q3)
          go_roundw
          case rel => exact ⟨k + 1, out ++ [cur], [], by have := HK.out; omega, by simp; omega, by simp, rfl, by go_num, zH (fun e => by have := HK.out; omega), zH (fun _ => HBB.out), by rw [List.length_append, svls_append']; exact H3.out, HQ.out.trans (((Quiet.refl _).alloc _).trans Q3.out)⟩
          case measure => have := HK.out; simp [intOf]; omega
      · obtain rfl : k = s.length + 1 := by omega
        have hk1 : ¬ ((s.length + 1 : Nat) : Int) ≤ (S.size : Int) := by have := HSZ.out; omega
        have hB := HB.out (by omega)
        subst hB
        go_wp2_with fail
        go_ret
        exact ⟨_, rfl, HQ.out, HH.out⟩
theorem node_tear (b bg:Nat) (told:List UInt8) (g:Gld) (v:Value) (a w1:List UInt8) (r:List (List UInt8)) (k:Int) (n:Int) (m:List Int) (o:Ord) (w:World) {w0:World} {R:HP}
  (h:Holds w (kst b bg told*(gld bg g*(wds v (tTear::a::w1::r)*(lay w0*R))))) (hg:g.Good) (hl:r.length≤10000) (hs:∀ s∈tTear::a::w1::r,s.length≤100000) (hk:numOf a=some k) (hr:numsOf r=some (n::m)) (ho:orderOf w1 m=some o) (ht:told.length≤300000000) :
  Calls Tryz.prog 24 #[.pointer (some ⟨b,0,none⟩),v] w fun e w'=>e=.returned (.bool true)∧Quiet w w'∧Holds w' (kst b bg (told++line (ansTxt (g.step ⟨3,n,k,o⟩).2 false))*(gld bg (g.step ⟨3,n,k,o⟩).1*(wds v (tTear::a::w1::r)*(lay w0*R)))):=by
 have hrl:=numsOf_len hr
 obtain ⟨gl,cl,rfl,c1,c2⟩:=wds_cons h.three
 simp only [List.length_cons] at c1 h ⊢
 obtain ⟨wa,hwa,H0,Q0⟩:∃ wa,w.alloc (.cells #[zI zi 0,zI zi 0,zI zi 0,zI zi 0,zI zi 0,zI zi 0,zI zi 0,zI zi 0,zI zi 0] 86)=wa∧Hid (Holds wa (bl w.heap.size 86 (zstep 0)*(kst b bg told*(gld bg g*(wds (.slice (some ⟨gl,0,none⟩) (r.length+1+1+1) cl) (tTear::a::w1::r)*(lay w0*R))))))∧Hid (Quiet w wa):=
  ⟨_,rfl,zH (h.boxB (ty:=86) (cs:=zstep 0) rfl),zH ((Quiet.refl w).alloc _)⟩
 have HR:=zH hr;have HO:=zH ho;have HS:=zH hs;have HG:=zH hg
 have HK:=zH (show numsOf [a]=some [k] by simp [numsOf,hk])
 clear h hr ho hs hg hk
 obtain ⟨qx,hqx⟩:∃ qx,w.heap.size=qx:=⟨_,rfl⟩
 rw [hqx] at H0
 have hr2:r.length=m.length+1:=by rw [←hrl];rfl
 have hl2:¬ ((m.length:Int)+1+1+1+1<2):=by omega
 have hl3:¬ ((m.length:Int)+1+1<2):=by omega
 have hc1:¬ cl=1:=by omega
 have hc2:¬ cl=2:=by omega
 have hc3:¬ cl-2=1:=by omega
 obtain ⟨T,hT⟩:∃ T,strOf tTear=T:=⟨_,rfl⟩
 have hb0:(T.toList==[116,101,97,114])=true:=by rw [←hT];exact bytes_yes tTear
 have HT:=zH hT;clear hT
 clear hrl
 go_enter Tryz.func24,Tryz.ntmps24
 go_wp2_with (first|(refine wpList_built rfl 86 _ rfl (zstep 2) (by kernel_rfl) ?_)|(refine wpList_store_whole rfl 86 _ _ rfl qx (zstep 2) rfl rfl H0.out.bl rfl (by kernel_rfl) (by simp [Ones,zstep,Value.oneCell']) ?_;intro wb h1' h2' h3';have HB:=zH (H0.out.grown h2' h1');have QB:=zH (Q0.out.trans (Quiet.grown h2'));have l0:=wds_cells HB.out.four 0 _ rfl;rw [HT.out] at l0;clear h1' h2' h3'))
 have hv1:RowAt wb (.slice (some ⟨gl,1,none⟩) 1 (cl-1)) 1 (svls [a]):=wds_part HB.out.four rfl (q:=1) (m:=1) (d:=cl-1) (by omega) (by omega)
 refine (numbers_sl _ [a] [k] _ (HB.out.eq (by ac_rfl:_=lay w0*(bl qx 86 (zstep 2)*(kst b bg told*(gld bg g*(wds (.slice (some ⟨gl,0,none⟩) (r.length+1+1+1) cl) (tTear::a::w1::r)*R)))))) hv1 (by simp) (fun s hs=>HS.out s (by simp at hs;simp [hs])) HK.out).mono ?_
 rintro e w3 ⟨v3,rfl,q3,h3⟩
 obtain ⟨gk,ck,rfl,e1,e2⟩:=inum_cons h3
 replace h3:Holds w3 (inum (.slice (some ⟨gk,0,none⟩) 1 ck) [k]*(lay w0*(bl qx 86 (zstep 2)*(kst b bg told*(gld bg g*(wds (.slice (some ⟨gl,0,none⟩) (r.length+1+1+1) cl) (tTear::a::w1::r)*R)))))):=h3
 have HK3:=zH (h3.drew.eq (by ac_rfl:_=bl qx 86 (zstep 2)*(inum (.slice (some ⟨gk,0,none⟩) 1 ck) [k]*(kst b bg told*(gld bg g*(wds (.slice (some ⟨gl,0,none⟩) (r.length+1+1+1) cl) (tTear::a::w1::r)*(lay w0*R)))))))
 have QK3:=zH ((QB.out.trans q3).drew)
 have y0:=HK3.out.bl.cell 0 _ rfl;have f0:=HK3.out.bl.free 0;have y2:=HK3.out.bl.cell 2 _ rfl;have f2:=HK3.out.bl.free 2
 have y2':w3.cell? ⟨qx,2,none⟩=some (zI zi 0):=y2
 have f2':w3.frozen? ⟨qx,2,none⟩=false:=f2
 clear h3 q3 hv1
 go_wp2_with fail
 have HK4:=zH (HK3.out.setB 0 (zI zi 3))
 have HK5:=zH (HK4.out.setB 2 (zI zi k))
 refine wp_region_lex (fun W=>W.cell? ⟨gk,0,none⟩=some (zI zi k)) [4,6] (by kernel_rfl) (by kernel_rfl) (inum_cell HK3.out.two 0 _ rfl) ?_
 repeat (first|(refine LexL.none (by rfl) ?_;(try simp only [zP,zA,zB,zC]))|(refine LexL.still (v:=?_) (by rfl) ?_ ?_;rotate_left;(focus (intro W hW;(try dsimp only at hW);go_simp;(try (with_reducible rfl));done));(try simp only [zP,zA,zB,zC])))
 refine LexL.store (w1:=w3.drew.setCell ⟨qx,0,none⟩ (zI zi 3)) (by rfl) (by decide) (by go_simp) (inum_cell HK4.out.two 0 _ rfl) ?_
 try simp only [zP,zA,zB,zC]
 repeat (first|(refine LexL.none (by rfl) ?_;(try simp only [zP,zA,zB,zC]))|(refine LexL.still (v:=?_) (by rfl) ?_ ?_;rotate_left;(focus (intro W hW;(try dsimp only at hW);go_simp;(try (with_reducible rfl));done));(try simp only [zP,zA,zB,zC])))
 refine LexL.store (w1:=(w3.drew.setCell ⟨qx,0,none⟩ (zI zi 3)).setCell ⟨qx,2,none⟩ (zI zi k)) (by rfl) (by decide) (by go_simp) (inum_cell HK5.out.two 0 _ rfl) ?_
 try simp only [zP,zA,zB,zC]
 refine LexL.done ?_
 obtain ⟨wb2,hwb2⟩:∃ W,(w3.drew.setCell ⟨qx,0,none⟩ (zI zi 3)).setCell ⟨qx,2,none⟩ (zI zi k)=W:=⟨_,rfl⟩
 have hb2:=HK5.out
 have hq2:=((QK3.out.setCell ⟨qx,0,none⟩ (zI zi 3)).setCell ⟨qx,2,none⟩ (zI zi k))
 rw [hwb2] at hb2 hq2 ⊢
 have HB:=zH (show Holds wb2 (bl qx 86 [zI zi 3,zI zi 0,zI zi k,zI zi 0,zI zi 0,zI zi 0,zI zi 0,zI zi 0,zI zi 0]*(kst b bg told*(gld bg g*(wds (.slice (some ⟨gl,0,none⟩) (r.length+1+1+1) cl) (tTear::a::w1::r)*(lay w0*R))))) from hb2.two.right)
 have QB:=zH hq2
 clear hb2 hq2 hwb2 HK3 HK4 HK5 QK3 y0 f0 y2 f2 y2' f2' l0
 go_wp2_with fail
 have hv2:RowAt wb2 (.slice (some ⟨gl,3,none⟩) (m.length+1) (cl-2-1)) r.length (svls r):=by rw [hr2];exact wds_tail HB.out.four rfl (q:=3) (m:=m.length+1) (d:=cl-2-1) (by omega) (by omega)
 refine (numbers_sl _ r (n::m) _ (HB.out.eq (by ac_rfl:_=lay w0*(bl qx 86 [zI zi 3,zI zi 0,zI zi k,zI zi 0,zI zi 0,zI zi 0,zI zi 0,zI zi 0,zI zi 0]*(kst b bg told*(gld bg g*(wds (.slice (some ⟨gl,0,none⟩) (r.length+1+1+1) cl) (tTear::a::w1::r)*R)))))) hv2 (by omega) (fun s hs=>HS.out s (List.mem_cons_of_mem _ (List.mem_cons_of_mem _ (List.mem_cons_of_mem _ hs)))) HR.out).mono ?_
 rintro e w5 ⟨v5,rfl,q5,h5⟩
 obtain ⟨gn,cn,rfl,d1,d2⟩:=inum_cons h5
 have H5:=zH h5;have Q5:=zH (QB.out.trans q5)
 clear h5 q5 hv2
 go_wp2_with fail
 have l5:w5.drew.cell? ⟨gl,2,none⟩=some (.string (strOf w1)):=wds_cells (H5.out.drew.eq (by ac_rfl:_=wds (.slice (some ⟨gl,0,none⟩) (r.length+1+1+1) cl) (tTear::a::w1::r)*(inum (.slice (some ⟨gn,0,none⟩) (m.length+1) cn) (n::m)*(lay w0*(bl qx 86 [zI zi 3,zI zi 0,zI zi k,zI zi 0,zI zi 0,zI zi 0,zI zi 0,zI zi 0,zI zi 0]*(kst b bg told*(gld bg g*R))))))) 2 _ rfl
 refine wp_region_lexH (fun W=>W.cell? ⟨gl,2,none⟩=some (.string (strOf w1))) [5,10] [9] (fz1 9 84 zord) _ (by kernel_rfl) (by kernel_rfl) (by kernel_rfl) fz1_fl fz1_no (fz1_ok rfl ⟨rfl,fun a w=>by kernel_rfl⟩) (fun W o h=>cell_alloc_keep h o) l5 H5.out.drew ?_
 clear l5
 have hp1:(0:Int)<(m.length:Int)+2:=by omega
 have hp2:¬ (m.length:Int)+1<1:=by omega
 repeat (first|(refine LexHL.still (v:=?_) (by rfl) (by rfl) ?_ ?_;rotate_left;(focus (intro W hW;(try dsimp only at hW);go_simp;(try (with_reducible rfl));done));(try simp only [zP,zA,zB,zC])))
 obtain ⟨vn,hvn⟩:∃ vn:Option Addr,(if cn=1 then some ⟨gn,0,none⟩ else some ⟨gn,1,none⟩)=vn:=⟨_,rfl⟩
 have HVN:=zH hvn;clear hvn
 refine LexHL.still (v:=.slice vn m.length (cn-1)) rfl rfl (fun W hW=>by rw [←HVN.out];go_simp) ?_
 try simp only [zP,zA,zB,zC]
 refine LexHL.call (f:=42) (args:=#[.string (strOf w1),.slice vn m.length (cn-1)]) rfl rfl (by decide) (fun W hS=>by go_simp) ?_
 intro W R1 hS hq hA
 have hrow:RowAt W (.slice vn m.length (cn-1)) m.length (ivs m):=by
  rw [←HVN.out]
  have:=inum_tail (show Holds W (rw_ 3 1 (.slice (some ⟨gn,0,none⟩) (m.length+1) cn) (m.length+1) (ivs (n::m))*_) from hA.eq (HP.assoc _ _ _)) rfl (by omega)
  simpa using this
 refine (order_sl _ w1 m o W hrow HO.out hA).mono ?_
 rintro e w6 ⟨rfl,q6,h6⟩
 refine ⟨_,rfl,wds_cells (h6.eq (by ac_rfl:_=wds (.slice (some ⟨gl,0,none⟩) (r.length+1+1+1) cl) (tTear::a::w1::r)*(inum (.slice (some ⟨gn,0,none⟩) (m.length+1) cn) (n::m)*(lay w0*(bl qx 86 [zI zi 3,zI zi 0,zI zi k,zI zi 0,zI zi 0,zI zi 0,zI zi 0,zI zi 0,zI zi 0]*(kst b bg told*(gld bg g*R))))*R1))) 2 _ rfl,hq.trans q6,_,h6,?_⟩
 clear hS hq hA hrow q6 h6
 dsimp only
 repeat (first|(refine LexHL.still (v:=?_) (by rfl) (by rfl) ?_ ?_;rotate_left;(focus (intro W hW;(try dsimp only at hW);go_simp;(try (with_reducible rfl));done));(try simp only [zP,zA,zB,zC])))
 refine LexHL.made rfl ?_
 intro qo hlv
 clear hlv
 try simp only [zP,zA,zB,zC]
 refine LexHL.storeB (q:=qo) (t:=84) (cs:=zord) (B:=inum (.slice (some ⟨gn,0,none⟩) (m.length+1) cn) (n::m)*(lay w0*(bl qx 86 [zI zi 3,zI zi 0,zI zi k,zI zi 0,zI zi 0,zI zi 0,zI zi 0,zI zi 0,zI zi 0]*(kst b bg told*(gld bg g*(wds (.slice (some ⟨gl,0,none⟩) (r.length+1+1+1) cl) (tTear::a::w1::r)*R)))))) 84 _ _ rfl [zI zi o.kind,zI zi o.now,zI zi o.job,zI zi o.tr,zI zi o.wk,zI zi o.tm] rfl rfl rfl (by kernel_rfl) (by simp [Ones,Value.oneCell']) rfl rfl (by decide) rfl (fun W R2 h=>wds_cells (h.eq (by ac_rfl:_=wds (.slice (some ⟨gl,0,none⟩) (r.length+1+1+1) cl) (tTear::a::w1::r)*(bl qo 84 [zI zi o.kind,zI zi o.now,zI zi o.job,zI zi o.tr,zI zi o.wk,zI zi o.tm]*(inum (.slice (some ⟨gn,0,none⟩) (m.length+1) cn) (n::m)*(lay w0*(bl qx 86 [zI zi 3,zI zi 0,zI zi k,zI zi 0,zI zi 0,zI zi 0,zI zi 0,zI zi 0,zI zi 0]*(kst b bg told*(gld bg g*R)))))*R2))) 2 _ rfl) ?_
 try simp only [zP,zA,zB,zC]
 repeat (first|(refine LexHL.still (v:=?_) (by rfl) (by rfl) ?_ ?_;rotate_left;(focus (intro W hW;(try dsimp only at hW);go_simp;(try (with_reducible rfl));done));(try simp only [zP,zA,zB,zC])))
 refine LexHL.done ?_
 intro W hS hA hq
 have HA:=zH hA;have QA:=zH (Q5.out.drew.trans hq)
 clear hS hA hq
 have hord:∀ (W:World),Holds W (bl qo 84 [zI zi o.kind,zI zi o.now,zI zi o.job,zI zi o.tr,zI zi o.wk,zI zi o.tm]*(inum (.slice (some ⟨gn,0,none⟩) (m.length+1) cn) (n::m)*(lay w0*(bl qx 86 [zI zi 3,zI zi 0,zI zi k,zI zi 0,zI zi 0,zI zi 0,zI zi 0,zI zi 0,zI zi 0]*(kst b bg told*(gld bg g*(wds (.slice (some ⟨gl,0,none⟩) (r.length+1+1+1) cl) (tTear::a::w1::r)*R)))))))→True:=fun _ _=>trivial
 clear hord
 go_wp2_with fail
 have HX:=zH (HA.out.drew.eq (by ac_rfl:_=bl qx 86 [zI zi 3,zI zi 0,zI zi k,zI zi 0,zI zi 0,zI zi 0,zI zi 0,zI zi 0,zI zi 0]*(bl qo 84 [zI zi o.kind,zI zi o.now,zI zi o.job,zI zi o.tr,zI zi o.wk,zI zi o.tm]*(inum (.slice (some ⟨gn,0,none⟩) (m.length+1) cn) (n::m)*(lay w0*(kst b bg told*(gld bg g*(wds (.slice (some ⟨gl,0,none⟩) (r.length+1+1+1) cl) (tTear::a::w1::r)*R))))))))
 have y1:=HX.out.bl.cell 1 _ rfl
 have f1:=HX.out.bl.free 1
 refine wp_region_lex (fun W=>W.cell? ⟨gn,0,none⟩=some (zI zi n)∧BlockAt W qo 84 [zI zi o.kind,zI zi o.now,zI zi o.job,zI zi o.tr,zI zi o.wk,zI zi o.tm]) [5,7] (by kernel_rfl) (by kernel_rfl) ⟨inum_cell HX.out.three 0 _ rfl,HX.out.two.bl⟩ ?_
 repeat (first|(refine LexL.none (by rfl) ?_;(try simp only [zP,zA,zB,zC]))|(refine LexL.still (v:=?_) (by rfl) ?_ ?_;rotate_left;(focus (intro W hW;(try dsimp only at hW);go_simp;(try (with_reducible rfl));done));(try simp only [zP,zA,zB,zC])))
 refine LexL.still (v:=.agg #[zI zi o.kind,zI zi o.now,zI zi o.job,zI zi o.tr,zI zi o.wk,zI zi o.tm]) (by rfl) (fun W hW=>exec_load_part 84 _ rfl qo 0 rfl [zI zi o.kind,zI zi o.now,zI zi o.job,zI zi o.tr,zI zi o.wk,zI zi o.tm] hW.2 rfl Tryz.underlying84 rfl (by kernel_rfl)) ?_
 try simp only [zP,zA,zB,zC]
 repeat (first|(refine LexL.none (by rfl) ?_;(try simp only [zP,zA,zB,zC]))|(refine LexL.still (v:=?_) (by rfl) ?_ ?_;rotate_left;(focus (intro W hW;(try dsimp only at hW);go_simp;(try (with_reducible rfl));done));(try simp only [zP,zA,zB,zC])))
 have HX2:=zH (HX.out.setB 1 (zI zi n))
 refine LexL.store (w1:=W.drew.setCell ⟨qx,1,none⟩ (zI zi n)) (by rfl) (by decide) (by go_simp) ⟨inum_cell HX2.out.three 0 _ rfl,HX2.out.two.bl⟩ ?_
 try simp only [zP,zA,zB,zC]
 repeat (first|(refine LexL.none (by rfl) ?_;(try simp only [zP,zA,zB,zC]))|(refine LexL.still (v:=?_) (by rfl) ?_ ?_;rotate_left;(focus (intro W hW;(try dsimp only at hW);go_simp;(try (with_reducible rfl));done));(try simp only [zP,zA,zB,zC])))
 refine LexL.storeP (q:=qx) (off:=3) (t:=86) (cs:=[zI zi 3,zI zi 0,zI zi k,zI zi 0,zI zi 0,zI zi 0,zI zi 0,zI zi 0,zI zi 0].set 1 (zI zi n)) 84 _ _ rfl [zI zi o.kind,zI zi o.now,zI zi o.job,zI zi o.tr,zI zi o.wk,zI zi o.tm] rfl rfl (by simp) (by kernel_rfl) (by simp [Ones,Value.oneCell']) (by rfl) (by decide) HX2.out ?_
 intro W3 h3 q3
 have H3:Hid (Holds W3 (bl qx 86 [zI zi 3,zI zi n,zI zi k,zI zi o.kind,zI zi o.now,zI zi o.job,zI zi o.tr,zI zi o.wk,zI zi o.tm]*(bl qo 84 [zI zi o.kind,zI zi o.now,zI zi o.job,zI zi o.tr,zI zi o.wk,zI zi o.tm]*(inum (.slice (some ⟨gn,0,none⟩) (m.length+1) cn) (n::m)*(lay w0*(kst b bg told*(gld bg g*(wds (.slice (some ⟨gl,0,none⟩) (r.length+1+1+1) cl) (tTear::a::w1::r)*R)))))))):=zH h3
 have Q3:=zH ((QA.out.drew.setCell ⟨qx,1,none⟩ (zI zi n)).trans q3)
 refine ⟨⟨inum_cell H3.out.three 0 _ rfl,H3.out.two.bl⟩,?_⟩
 clear h3 q3 y1 f1
 try simp only [zP,zA,zB,zC]
 refine LexL.done ?_
 go_wp2_with fail
 obtain ⟨RX,hRX⟩:∃ RX:HP,(bl qx 86 [zI zi 3,zI zi n,zI zi k,zI zi o.kind,zI zi o.now,zI zi o.job,zI zi o.tr,zI zi o.wk,zI zi o.tm]*(bl qo 84 [zI zi o.kind,zI zi o.now,zI zi o.job,zI zi o.tr,zI zi o.wk,zI zi o.tm]*inum (.slice (some ⟨gn,0,none⟩) (m.length+1) cn) (n::m)))=RX:=⟨_,rfl⟩
 have hx4:Holds W3.drew (gld bg g*(kst b bg told*(lay w0*(RX*(wds (.slice (some ⟨gl,0,none⟩) (r.length+1+1+1) cl) (tTear::a::w1::r)*R))))):=by
  rw [←hRX]
  exact H3.out.drew.eq (by ac_rfl)
 have mkS:∀ (W:World) (td:List UInt8) (A B:HP),Holds W (A*(kst b bg td*(lay w0*(RX*B))))→W.cell? ⟨b,2,none⟩=some (.pointer (some ⟨bg,0,none⟩))∧BlockAt W qx 86 [zI zi 3,zI zi n,zI zi k,zI zi o.kind,zI zi o.now,zI zi o.job,zI zi o.tr,zI zi o.wk,zI zi o.tm]∧W.cell? ⟨qx,0,none⟩=some (zI zi 3)∧W.cell? ⟨qo,0,none⟩=some (zI zi o.kind):=fun W td A B h=>by
  have h2:=h.four
  rw [←hRX] at h2
  exact ⟨kst_bg h.two,h2.left.bl,h2.left.bl.cell 0 _ rfl,h2.left.two.bl.cell 0 _ rfl⟩
 have HX4:=zH hx4;have MKS:=zH mkS;have HRX:=zH hRX
 clear hx4 mkS hRX
 obtain ⟨lg,hlg⟩:=HG.out
 have HA4:=zH (step_small hlg ⟨3,n,k,o⟩)
 refine wp_region_lex (fun W=>W.cell? ⟨b,2,none⟩=some (.pointer (some ⟨bg,0,none⟩))∧BlockAt W qx 86 [zI zi 3,zI zi n,zI zi k,zI zi o.kind,zI zi o.now,zI zi o.job,zI zi o.tr,zI zi o.wk,zI zi o.tm]∧W.cell? ⟨qx,0,none⟩=some (zI zi 3)∧W.cell? ⟨qo,0,none⟩=some (zI zi o.kind)) [6,15] (by kernel_rfl) (by kernel_rfl) (MKS.out _ _ _ _ HX4.out) ?_
 repeat (first|(refine LexL.none (by rfl) ?_;(try simp only [zP,zA,zB,zC]))|(refine LexL.still (v:=?_) (by rfl) ?_ ?_;rotate_left;(focus (intro W hW;(try dsimp only at hW);go_simp;(try (with_reducible rfl));done));(try simp only [zP,zA,zB,zC])))
 refine LexL.still (v:=.agg #[zI zi 3,zI zi n,zI zi k,zI zi o.kind,zI zi o.now,zI zi o.job,zI zi o.tr,zI zi o.wk,zI zi o.tm]) (by rfl) (fun W hW=>exec_load_part 86 _ rfl qx 0 rfl [zI zi 3,zI zi n,zI zi k,zI zi o.kind,zI zi o.now,zI zi o.job,zI zi o.tr,zI zi o.wk,zI zi o.tm] hW.2.1 rfl Tryz.underlying86 rfl (by kernel_rfl)) ?_
 try simp only [zP,zA,zB,zC]
 refine LexL.call (f:=44) (args:=#[.pointer (some ⟨bg,0,none⟩),.agg #[zI zi 3,zI zi n,zI zi k,zI zi o.kind,zI zi o.now,zI zi o.job,zI zi o.tr,zI zi o.wk,zI zi o.tm]]) (w1:=W3.drew) (by rfl) (by decide) (by go_simp) ?_
 refine (gstep_sl bg g 3 n k o.kind o.now o.job o.tr o.wk o.tm _ HX4.out HG.out).mono ?_
 rintro e W5 ⟨rfl,q5,h5⟩
 have H5':=zH (show Holds W5 (gld bg (g.step ⟨3,n,k,o⟩).1*_) from h5);have Q5':=zH (Q3.out.drew.trans q5)
 clear h5 q5
 refine ⟨_,rfl,MKS.out _ _ _ _ H5'.out,?_⟩
 try simp only [zP,zA,zB,zC]
 repeat (first|(refine LexL.none (by rfl) ?_;(try simp only [zP,zA,zB,zC]))|(refine LexL.still (v:=?_) (by rfl) ?_ ?_;rotate_left;(focus (intro W hW;(try dsimp only at hW);go_simp;(try (with_reducible rfl));done));(try simp only [zP,zA,zB,zC])))
 refine LexL.call (f:=43) (args:=#[.pointer (some ⟨b,0,none⟩),(g.step ⟨3,n,k,o⟩).2.val,.bool false]) (w1:=W5) (by rfl) (by decide) (by go_simp) ?_
 refine (answer_sl b bg told (g.step ⟨3,n,k,o⟩).2 false W5 (H5'.out.two.eq (by ac_rfl:_=kst b bg told*(lay w0*(gld bg (g.step ⟨3,n,k,o⟩).1*(RX*(wds (.slice (some ⟨gl,0,none⟩) (r.length+1+1+1) cl) (tTear::a::w1::r)*R)))))) HA4.out (by omega)).mono ?_
 rintro e W6 ⟨rfl,q6,h6⟩
 have H6:=zH (h6.eq (by ac_rfl:_=RX*(kst b bg (told++line (ansTxt (g.step ⟨3,n,k,o⟩).2 false))*(gld bg (g.step ⟨3,n,k,o⟩).1*(wds (.slice (some ⟨gl,0,none⟩) (r.length+1+1+1) cl) (tTear::a::w1::r)*(lay w0*R))))))
 have Q6:=zH (Q5'.out.trans q6)
 refine ⟨_,rfl,MKS.out _ _ (gld bg (g.step ⟨3,n,k,o⟩).1) _ (H6.out.eq (by ac_rfl:_=gld bg (g.step ⟨3,n,k,o⟩).1*(kst b bg (told++line (ansTxt (g.step ⟨3,n,k,o⟩).2 false))*(lay w0*(RX*(wds (.slice (some ⟨gl,0,none⟩) (r.length+1+1+1) cl) (tTear::a::w1::r)*R)))))),?_⟩
 clear h6 q6
 try simp only [zP,zA,zB,zC]
 refine LexL.done ?_
 go_wp2
 go_ret
 exact ⟨rfl,Q6.out,H6.out.right⟩
end Go.Proofs.YtfihmpkkpgmdhaaGreatDoor
