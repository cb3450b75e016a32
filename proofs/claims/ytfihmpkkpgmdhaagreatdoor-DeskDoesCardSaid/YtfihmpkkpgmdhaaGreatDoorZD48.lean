/-
  What the proof of DeskDoes leans on: definitions, laws, contracts of functions. No condition besides those that each theorem names.
-/
import Derived.Test.YtfihmpkkpgmdhaaGreatDoorZD22
import Derived.Test.YtfihmpkkpgmdhaaGreatDoorCards
import Derived.Test.YtfihmpkkpgmdhaaGreatDoorZD13
import Derived.Lay
import Derived.LaidMore
import Derived.Stop.Joined
import Derived.Stop.LaidErr
import Derived.Lib.LaidTab
import Derived.Shelf.Vars
import Derived.SizedLaws
import Derived.SliceStrings
import Derived.Test.YtfihmpkkpgmdhaaGreatDoorZD46
set_option maxRecDepth 100000
set_option maxHeartbeats 16000000
set_option linter.unusedVariables false
set_option linter.unusedSimpArgs false
set_option linter.unnecessarySimpa false
section
namespace Go.Proofs.YtfihmpkkpgmdhaaGreatDoor
open Go.Value renaming int → zI
open Go.IntKind renaming i64 → zi
open Go.RowKit Go.ChangeShapes Go.WideShapes
theorem laid_iface {P:Program} {n nm:String} {d:DataW Unit} {r:List (String×DataW Unit)} {W:World} {g:Nat} {ti:TypeId} {ms:Array (String×TypeId)}
  (h:laidMet P ((n,.iface nm d)::r) W) (hg:P.globalNamed n=some g) (ht:(P.globals[g]?).map (·.type)=some ti) (hi:P.underlying ti=some (.interface ms)):∃ (t:TypeId) (p:Value),W.var? P n=some #[.iface t p]:=by
 obtain ⟨ps,⟨g0,t0,cs0,f0,p0,q0,hg0,ht0,hv0,hd0,_,e0⟩,_,_⟩:=h
 obtain rfl:=Option.some.inj (hg.symm.trans hg0)
 obtain rfl:=Option.some.inj (ht.symm.trans ht0)
 obtain ⟨f1,u,v,e,_⟩:=iface_of_trod hi hd0
 refine ⟨u,v,?_⟩
 rw [hv0]
 congr 1
 apply Array.ext'
 exact e
theorem laid_of {W:World} (hL:laidMetH Tryz.prog Rows.deskJoinsRow.laid W) (hsh:W.ShapedOpen Tryz.prog):Laid W:=by
 rw [MakeChecks.laidMetH_plain _ _ _ (by kernel_rfl)] at hL
 have h3:laidMet Tryz.prog (("internal/strconv.uint64pow10",Lib.tabData .u64 Lib.pow10Tab)::[("unicode/utf8.acceptRanges",Rows.laid_unicode_utf8_acceptRanges),("strconv.ErrRange",Rows.laid_strconv_ErrRange),("strconv.ErrSyntax",Rows.laid_strconv_ErrSyntax),("unicode/utf8.first",Rows.laid_unicode_utf8_first)]) W:=hL.tail.tail
 refine ⟨Lib.tabIs_of_head (g:=5) (t:=209) (e:=179) (n:=20) (by kernel_rfl) (by kernel_rfl) Tryz.underlying209 Tryz.underlying179 (by kernel_rfl) (by kernel_rfl) h3,?_,?_,?_⟩
 ·exact laid_iface (g:=1) (ti:=78) (r:=[("unicode/utf8.first",Rows.laid_unicode_utf8_first)]) h3.tail.tail.tail (by kernel_rfl) (by kernel_rfl) Tryz.underlying78
 ·exact laid_iface (g:=2) (ti:=78) (r:=[("strconv.ErrSyntax",Rows.laid_strconv_ErrSyntax),("unicode/utf8.first",Rows.laid_unicode_utf8_first)]) h3.tail.tail (by kernel_rfl) (by kernel_rfl) Tryz.underlying78
 ·exact cell_of_shapedOpen_int (g:=0) (t:=3) (zero:=#[zI zi 0]) (k:=.i64) hsh (by decide +kernel) (by kernel_rfl) rfl (by kernel_rfl) (by kernel_rfl) Tryz.underlying3
section
variable {H:Type} {enc:TypeId×Value→H}
theorem wrap_laid {a:Assume} {C:Checked} {os:Os} {f:FuncId} {fn:Func} {s:ChangeSpec} {conds:List PathCond} {apart fresh handsOn again:Bool} {X:World→Array Value→Prop}
  (hX:∀ (w w':World) (args:Array Value),w.heap=w'.heap→X w args→X w' args)
  (own:ownKnob C.prog.godebug=none) (started:os.Started) (noInit:C.prog.inits.idxOf? f=none) (hfn:C.prog.funcs[f]? = some fn)
  (witness:∃ (w:World) (tape:Tape) (i:Input),w.os=os∧(w.forCall tape i).Shaped C.prog∧i.vars=[]∧Input.okWide C.prog (w.forCall tape i) .any w.heap.size f i ∧
   ((s.pre enc C.prog fn conds apart (w.forCall tape i).memory i.args∧X (w.forCall tape i).memory i.args)∧sizedMet enc C.prog fn (OpenSpec.ofChange s) apart (w.forCall tape i).memory i.args)∧a.holds C.prog (lone (Frame.enter C.prog f i.args .normal) [] (w.forCall tape i)))
  (contract:∀ (W:World) (base:Nat) (args:Array Value) (ds gs:List (DataW H)) (before:List MemPlace),
   (∀ (j:Nat) t v,fn.params[j]? = some t→args[j]? = some v→Value.okWide C.prog W .any base t v) →
   DataW.Whole enc C.prog fn.params.toList s.vars apart W args.toList ds gs before →
   (DataW.weightsEach C.prog (fn.params.toList++s.plain.varTypes C.prog) (ds++gs)).all (·≤reachBytes)=true→X W args→W.ShapedOpen C.prog →
   Calls C.prog f args W fun e W'=>∃ v,e=.returned v∧s.post enc C.prog fn apart fresh handsOn again W args v W') :
  ReturnsInHanded a C os f .any (fun w args=>(s.pre enc C.prog fn conds apart w args∧X w args)∧sizedMet enc C.prog fn (OpenSpec.ofChange s) apart w args) (s.post enc C.prog fn apart fresh handsOn again):=by
 refine returnsInHanded_of_calls own started noInit witness ?_
 intro w tape i _ hsh _ hok hpre hholds
 obtain ⟨_,_,_,fn',hfn',_,_,_,_,hval⟩:=hok
 have e:fn'=fn:=Option.some.inj (hfn'.symm.trans hfn)
 subst e
 obtain ⟨⟨⟨ds,gs,before,hw,hc⟩,hx⟩,hz⟩:=hpre
 have hw':=DataW.Whole.of_heap (w':=w.forCall tape i) (by rfl) hw
 refine (contract (w.forCall tape i) w.heap.size i.args ds gs before hval hw' (hz.weights hw) (hX _ _ _ (by rfl) hx) hsh).mono fun e W' ⟨v,he,hp⟩=>?_
 subst he
 exact ChangeSpec.post_blind hp
theorem weightsAll_mem {P:Program} {e:TypeId}:∀ {l:List (DataW H)} {d:DataW H} {n:Nat},d∈l→n∈d.weights P e→n∈DataW.weightsAll P e l
 | [],_,_,h,_=>by cases h
 | a::l,d,n,h,hn=>by
  simp only [DataW.weightsAll,List.mem_append]
  rcases List.mem_cons.1 h with rfl|h
  ·exact .inl hn
  ·exact .inr (weightsAll_mem h hn)
variable {P:Program} {w:World} {base:Nat} {spare:Nat→Bool} {held:Bool}
theorem strsAt_of {t e:TypeId} {fuel:Nat} {a:Option Addr} {len cap:Nat} {x:DataW H×List MemPlace} (ht:P.underlying t=some (.slice e)) (he:P.underlying e=some .string) (hc:P.cellsOf e=1)
  (h:DataW.trod enc P w base spare held fuel t [.slice a len cap]=some x) {ts:List TypeId} {ds:List (DataW H)} {j:Nat} (hts:ts[j]? = some t) (hds:ds[j]? = some x.1) (hz:(DataW.weightsEach P ts ds).all (·≤reachBytes)=true) :
  ∃ L:List (List UInt8),RowAt w (.slice a len cap) L.length (svls L)∧∀ s∈L,s.length≤140737488351232:=by
 rcases open_strings ht he hc h with ⟨h0,_⟩|⟨a',len',cap',ss,hcs,_,hl,hm,hss,hx,hcell,_⟩
 ·simp at h0
  obtain ⟨rfl,rfl,rfl⟩:=h0
  exact ⟨[],⟨none,0,rfl,Nat.le_refl _,Nat.zero_le _,fun _=>rfl,fun h=>absurd rfl h⟩,fun s hs=>by cases hs⟩
 ·simp only [List.cons.injEq,Value.slice.injEq,and_true] at hcs
  obtain ⟨rfl,rfl,rfl⟩:=hcs
  have hsl:len≤ss.length:=by rw [hss];split<;>omega
  have hL:((ss.take len).map fun s=>s.data.toList).length=len:=by rw [List.length_map,List.length_take];omega
  refine ⟨(ss.take len).map fun s=>s.data.toList,?_,fun s hs=>?_⟩
  ·rw [hL]
   refine ⟨some a',cap,rfl,hl,hm,by simp,fun h0=>?_⟩
   have hc0:=hcell 0 (by omega)
   rw [Addr.add_zero'] at hc0
   have ea:=addr_of_cell hc0
   refine ⟨a'.block,a'.off,by rw [←ea],fun j u hu=>?_⟩
   have hj:j<len:=by
    have:=(List.getElem?_eq_some_iff.1 hu).1
    rw [svls,List.length_map,hL] at this;exact this
   have hcj:=hcell j (by omega)
   rw [ea,Addr.add_lit] at hcj
   rw [hcj]
   have hsj:ss[j]? = some (ss.getD j ByteArray.empty):=by simp [show j<ss.length by omega]
   have:(svls ((ss.take len).map fun s=>s.data.toList))[j]? = some (.string (ss.getD j ByteArray.empty)):=by
    rw [svls,List.getElem?_map,List.getElem?_map,List.getElem?_take,if_pos hj,hsj]
    simp only [Option.map_some,Go.Proofs.YtfihmpkkpgmdhaaGreatDoor.strOf_list]
   rw [this] at hu
   exact hu
  ·obtain ⟨b,hb,rfl⟩:=List.mem_map.1 hs
   have hm2:b.data.toList.length∈(x.1).weights P t:=by
    rw [hx]
    simp only [DataW.weights,ht,List.mem_cons,List.mem_append]
    refine .inr (.inl (weightsAll_mem (d:=.lit (.string b.data.toList)) ?_ (by simp [DataW.weights])))
    exact List.mem_map.2 ⟨b,hb,rfl⟩
   exact of_decide_eq_true (List.all_eq_true.1 hz _ (DataW.weights_mem_each hts hds _ hm2))
end
end Go.Proofs.YtfihmpkkpgmdhaaGreatDoor
end
namespace Go.Proofs.YtfihmpkkpgmdhaaGreatDoor
open Go.RowKit
open Go.Lib renaming hid → zH
open Go.Value renaming int → zI
open Go.IntKind renaming i64 → zi
theorem knew_sl (w:World) {R:HP} (h:Holds w R):Calls Tryz.prog 7 #[] w fun e w'=>∃ b bg:Nat,e=.returned (.pointer (some ⟨b,0,none⟩))∧Quiet w w'∧Holds w' (kbl b bg*(gld bg Gld.zero*R)):=by
 have H:=zH h;clear h
 go_enter Tryz.func7,Tryz.ntmps7
 go_wp2_with fail
 refine (gNew_sl _ H.out).mono ?_
 rintro e w1 ⟨bg,rfl,q1,h1⟩
 have H1:=zH (show Holds w1 (gld bg Gld.zero*R) from h1);have Q1:=zH q1;clear h1 q1
 go_wp2_with (refine wpList_built rfl 46 _ rfl (kcs 0 bg false (.slice none 0 0)) (by kernel_rfl) ?_)
 go_ret
 exact ⟨_,bg,rfl,Q1.out.alloc _,kbl_close (u:=false) (v:=.slice none 0 0) (H1.out.boxB (ty:=46) (cs:=kcs w1.heap.size bg false (.slice none 0 0)) rfl)⟩
theorem kdo_sl (b bg:Nat) (g:Gld) (v:Value) (l:List (List UInt8)) (w:World) {w0:World} {R:HP} (h:Holds w (kbl b bg*(gld bg g*(lay w0*R)))) (hg:g.Good) (hv:∀ W,Holds W (lay w0*R)→RowAt W v l.length (svls l)) (hz:∀ s∈l,s.length≤9000) :
  Calls Tryz.prog 9 #[.pointer (some ⟨b,0,none⟩),v] w fun e w'=>∃ (T:List UInt8) (c a:Int) (g':Gld),e=.returned (.tuple #[.string (strOf T),.agg #[zI zi c,zI zi a]])∧Quiet w w'∧Holds w' (kbl b bg*(gld bg g'*(lay w0*R)))∧g'.Good ∧
   (l.length≤150→brk l=none→c=0∧a=0∧T=(tells g l).2∧g'=(tells g l).1)∧(∀ i,l.length≤150→brk l=some i→c=13∧a=i∧T=[]∧g'=g)∧(150<l.length→c=12∧a = -1∧T=[]∧g'=g):=by
 by_cases hn:l.length≤150
 ·cases hb:brk l with
  | none=>
   refine (do_ok b bg g v l w h hg hv hn hz hb).mono ?_
   rintro e w' ⟨rfl,q,k⟩
   exact ⟨_,_,_,_,rfl,q,k,tells_good l hg,fun _ _=>⟨rfl,rfl,rfl,rfl⟩,fun i _ e=>(by cases e),fun e=>absurd hn (by omega)⟩
  | some i=>
   refine (do_brk b v l i w h (hv w h.right.right) hn hb).mono ?_
   rintro e w' ⟨rfl,q,k⟩
   exact ⟨_,_,_,_,rfl,q,k,hg,fun _ e=>(by cases e),fun j _ e=>(by injection e with e;subst e;exact ⟨rfl,rfl,rfl,rfl⟩),fun e=>absurd hn (by omega)⟩
 ·obtain ⟨a,c,e0,h1,h2⟩:=(hv w h.right.right).shape
  refine (do_many b v l.length w h ⟨a,c,e0,h1,h2⟩ (by omega)).mono ?_
  rintro e w' ⟨rfl,q,k⟩
  exact ⟨_,_,_,_,rfl,q,k,hg,fun e=>absurd e hn,fun i e=>absurd e hn,fun _=>⟨rfl,rfl,rfl,rfl⟩⟩
theorem bl_rowAt {W:World} {g:Nat} {l:List (List UInt8)} {A:HP} {n:Nat} (h:Holds W (bl g 9 (svls l)*A)) (hn:l.length=n) (hs:n≤1000):RowAt W (.slice (some ⟨g,0,none⟩) n n) l.length (svls l):=by
 subst hn
 exact ⟨_,_,rfl,Nat.le_refl _,by simp only [maxLen];omega,by simp,fun _=>⟨_,_,rfl,fun j u hj=>by rw [Nat.zero_add];exact h.bl.cell j u hj⟩⟩
theorem deskBegun_any (w:World) (hl:Laid w):Calls Tryz.prog 5 #[] w fun e w'=>e=.returned (.bool true)∧Below w.heap.size w w':=by
 have H0:=zH (lay_start hl);clear hl
 have hb:=bytes_yes dbTold
 have hT0:=begun_told
 obtain ⟨T,hT⟩:∃ T,strOf dbTold=T:=⟨_,rfl⟩
 rw [hT] at hb
 simp only [dbTold] at hb
 have HT:=zH hT;have HT0:=zH hT0
 clear hT hT0
 go_enter Tryz.func5,Tryz.ntmps5
 go_wp2_with fail
 refine (knew_sl _ H0.out).mono ?_
 rintro e w1 ⟨b,bg,rfl,q1,h1⟩
 have H1:=zH ((h1.boxB (ty:=9) (cs:=svls dbLines) rfl).eq (by ac_rfl:_=kbl b bg*(gld bg Gld.zero*(lay w*(bl w1.heap.size 9 (svls dbLines)*HP.emp)))));have Q1:=zH q1;clear h1 q1
 go_wp2_with fail
 refine (do_ok b bg Gld.zero _ dbLines _ H1.out good_zero (fun W h=>bl_rowAt h.right rfl (by decide)) (by decide) (by decide) (by decide)).mono ?_
 rw [HT0.out,HT.out]
 rintro e w2 ⟨rfl,q2,h2⟩
 obtain ⟨q0,hq0⟩:∃ q,w2.heap.size=q:=⟨_,rfl⟩
 have H2:=zH ((h2.right.right.left).boxB (ty:=31) (cs:=[zI zi 0,zI zi 0]) hq0);have Q2:=zH ((Q1.out.alloc (.cells (svls dbLines).toArray 9)).trans q2)
 clear h2 q2
 go_wp2_with (refine wpList_store_whole rfl 31 _ _ rfl q0 [zI zi 0,zI zi 0] rfl rfl H2.out.bl rfl (by kernel_rfl) (by simp [Ones,Value.oneCell']) ?_;intro w5 h1' h2' h3';have H5:=zH (H2.out.grown h2' h1');have Q5:=zH ((Q2.out.alloc (.cells #[zI zi 0,zI zi 0] 31)).trans (Quiet.grown h2'));clear h1' h2' h3';have c0:=H5.out.bl.cell 0 _ rfl)
 go_ret
 exact ⟨rfl,(lay_of (H5.out.swap.eq (by rfl))).left.toBelow' Q5.out⟩
theorem slow_sl (v:Value) (l:List (List UInt8)) (w:World) (hv:RowAt w v l.length (svls l)) (hn:l.length≤100000) (hz:∀ s∈l,s.length≤140737488351232) :
  Calls Tryz.prog 6 #[v] w fun e w'=>∃ c:Bool,e=.returned (.bool c)∧w'=w∧(c=false→∀ s∈l,s.length≤9000):=by
 obtain ⟨a,c,rfl,c1,c2⟩:=hv.shape
 have HV:=zH hv;have HZ:=zH hz
 clear hv hz
 go_enter Tryz.func6,Tryz.ntmps6
 go_wp2_with fail
 go_loopw [3,4] (fun n i wr=>∃ (k t:Nat),k≤l.length∧t≤9000∧n=zI zi t∧i=zI zi k∧wr=w∧Hid (∀ s∈l.take k,s.length≤9000)) (fun _ i _=>l.length-(intOf i).toNat)
 case atStart=>exact ⟨0,0,by omega,by omega,rfl,rfl,rfl,zH (fun s hs=>by simp at hs)⟩
 case round=>
  obtain ⟨k,t,hk,ht,rfl,rfl,rfl,HK⟩:=hrel
  by_cases hlt:k<l.length
  ·obtain ⟨s,hs⟩:∃ s,l[k]? = some s:=⟨_,List.getElem?_eq_getElem hlt⟩
   obtain ⟨gl,ol,cl,e,-,-,hc⟩:=HV.out.get (by omega)
   simp only [Value.slice.injEq] at e
   obtain ⟨rfl,-,rfl⟩:=e
   have y0:=hc k _ (svls_get hs)
   have hzs:=HZ.out s (List.mem_of_getElem? hs)
   have hss:=strOf_size s
   have htk:l.take (k+1)=l.take k++[s]:=by rw [List.take_add_one,hs];rfl
   have HTK:=zH htk
   clear hc hs htk
   obtain ⟨S,hS⟩:∃ S,strOf s=S:=⟨_,rfl⟩
   rw [hS] at y0 hss
   obtain ⟨n,hn'⟩:∃ n,S.size=n:=⟨_,rfl⟩
   have hnz:n≤140737488351232:=by omega
   have HN:=zH hss;have HNN:=zH hn'
   clear hss hS
   by_cases hbig:9000<t+n
   ·have hb1:(9000:Int)<(t:Int)+(n:Int):=by omega
    go_wp2
    go_ret
    exact ⟨true,rfl,rfl,fun e=>by cases e⟩
   ·have hb1:¬ (9000:Int)<(t:Int)+(n:Int):=by omega
    go_wp2
    go_roundw
    case rel=>exact ⟨k+1,t+n,by omega,by omega,by go_num,by go_num,trivial,zH (fun x hx=>by
     rw [HTK.out,List.mem_append,List.mem_singleton] at hx
     rcases hx with hx|rfl
     ·exact HK.out x hx
     ·have:=HN.out;have:=HNN.out;omega)⟩
    case measure=>simp [intOf];omega
  ·obtain rfl:k=l.length:=by omega
   go_wp2
   go_ret
   refine ⟨false,rfl,rfl,fun _ s hs=>HK.out s ?_⟩
   rw [List.take_length]
   exact hs
end Go.Proofs.YtfihmpkkpgmdhaaGreatDoor
