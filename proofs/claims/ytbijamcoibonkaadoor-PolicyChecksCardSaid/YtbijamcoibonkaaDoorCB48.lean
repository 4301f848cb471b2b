/-
 Policies that come in by value, opened; what the rows' listed variables give the walks of law 28.
-/
import Derived.Test.YtbijamcoibonkaaDoorCB47
import Derived.Test.YtbijamcoibonkaaDoorCSPoX
import Derived.Test.YtbijamcoibonkaaDoorRows
import Derived.LaidMore
import Derived.LaidHandle
import Derived.OpenShut
import Derived.Stop.Joined
import Derived.Stop.LaidErr
import Derived.Lib.LaidTab
import Derived.Lib.ItoaNum
import Derived.Deep.Slices
import Derived.Deep.Strs
import Derived.MakeChecks
import Derived.Lay
namespace Go.Proofs.YtbijamcoibonkaaDoor
set_option linter.unusedSimpArgs false
set_option linter.unusedVariables false
open Go.ChangeShapes Go.WideShapes Go.ChangeAt Go.WideMaps Go.WideElems Go.RowKit Go.Joins
theorem trod_struct9 {H:Type} {enc:TypeId × Value→H} {W:World} {P:Program} {t:TypeId} {f0 f1 f2 f3 f4 f5 f6 f7 f8:Field} {fuel:Nat} {cs:List Value} {x:DataW H × List MemPlace} (ht:P.underlying t=some (.struct #[f0,f1,f2,f3,f4,f5,f6,f7,f8])) (h:DataW.trod enc P W 0 (fun _=>true) true fuel t cs=some x) :
  ∃ y0 y1 y2 y3 y4 y5 y6 y7 y8 n,x.1 = .agg [y0.1,y1.1,y2.1,y3.1,y4.1,y5.1,y6.1,y7.1,y8.1]∧cs.length=P.cellsOf t∧DataW.trod enc P W 0 (fun _=>true) true n f0.type ((cs.drop f0.offset).take (P.cellsOf f0.type))=some y0 ∧
   DataW.trod enc P W 0 (fun _=>true) true n f1.type ((cs.drop f1.offset).take (P.cellsOf f1.type))=some y1∧DataW.trod enc P W 0 (fun _=>true) true n f2.type ((cs.drop f2.offset).take (P.cellsOf f2.type))=some y2 ∧
   DataW.trod enc P W 0 (fun _=>true) true n f3.type ((cs.drop f3.offset).take (P.cellsOf f3.type))=some y3∧DataW.trod enc P W 0 (fun _=>true) true n f4.type ((cs.drop f4.offset).take (P.cellsOf f4.type))=some y4 ∧
   DataW.trod enc P W 0 (fun _=>true) true n f5.type ((cs.drop f5.offset).take (P.cellsOf f5.type))=some y5∧DataW.trod enc P W 0 (fun _=>true) true n f6.type ((cs.drop f6.offset).take (P.cellsOf f6.type))=some y6 ∧
   DataW.trod enc P W 0 (fun _=>true) true n f7.type ((cs.drop f7.offset).take (P.cellsOf f7.type))=some y7∧DataW.trod enc P W 0 (fun _=>true) true n f8.type ((cs.drop f8.offset).take (P.cellsOf f8.type))=some y8:=by
 obtain ⟨xs,n,_,rfl,hl,hlen,hf⟩:=DataW.trod_struct ht h
 match xs,hlen with
 | [y0,y1,y2,y3,y4,y5,y6,y7,y8],_=>exact ⟨y0,y1,y2,y3,y4,y5,y6,y7,y8,n,by simp,hl,by simpa using hf 0 f0 rfl,by simpa using hf 1 f1 rfl,by simpa using hf 2 f2 rfl,by simpa using hf 3 f3 rfl,by simpa using hf 4 f4 rfl,by simpa using hf 5 f5 rfl,by simpa using hf 6 f6 rfl,by simpa using hf 7 f7 rfl,by simpa using hf 8 f8 rfl⟩
theorem list9O {α:Type} {l:List α} (h:l.length=9):∃ a b c d e f g i j,l=[a,b,c,d,e,f,g,i,j]:=by
 match l,h with
 | [a,b,c,d,e,f,g,i,j],_=>exact ⟨a,b,c,d,e,f,g,i,j,rfl⟩
theorem cO_po:Tryd.prog.cellsOf 26=9:=by kernel_rfl
theorem cO_pr:Tryd.prog.cellsOf 58=2:=by kernel_rfl
theorem cO_bd:Tryd.prog.cellsOf 31=2:=by kernel_rfl
theorem cO_b:Tryd.prog.cellsOf 4=1:=by kernel_rfl
theorem cO_ss:Tryd.prog.cellsOf 22=1:=by kernel_rfl
theorem cO_prs:Tryd.prog.cellsOf 23=1:=by kernel_rfl
theorem cO_bds:Tryd.prog.cellsOf 24=1:=by kernel_rfl
theorem bO_pr:1≤Tryd.prog.bytesOf 58:=of_decide_eq_true (by kernel_rfl)
theorem bO_bd:1≤Tryd.prog.bytesOf 31:=of_decide_eq_true (by kernel_rfl)
section
variable {H:Type} {enc:TypeId × Value→H} {W:World}
set_option maxRecDepth 100000 in
theorem pr_el (n:Nat) (cs:List Value) (y:DataW H × List MemPlace) (h:DataW.trod enc Tryd.prog W 0 (fun _=>true) true n 58 cs=some y) (hs:∀ m ∈ y.1.weights Tryd.prog 58,m≤reachBytes):∃ x,kPair.E (·<W.heap.size) W cs x∧True:=by
 obtain ⟨xs,m,_,hx,hl,hlen,hf⟩:=DataW.trod_array Tryd.underlying58 h
 obtain ⟨c0,c1,rfl⟩:=list2G (hl.trans cO_pr)
 obtain ⟨x0,x1,rfl⟩:=list2G hlen
 have h0:=hf 0 (by decide)
 have h1:=hf 1 (by decide)
 rw [cG_i] at h0 h1
 obtain ⟨i0,e0,_,_⟩:=DataW.trod_int Tryd.underlying3 (show DataW.trod enc Tryd.prog W 0 (fun _=>true) true m 3 [c0]=some x0 from h0)
 obtain ⟨i1,e1,_,_⟩:=DataW.trod_int Tryd.underlying3 (show DataW.trod enc Tryd.prog W 0 (fun _=>true) true m 3 [c1]=some x1 from h1)
 simp only [List.cons.injEq,and_true] at e0 e1
 subst e0 e1
 exact ⟨(i0,i1),rfl,trivial⟩
def QB (b:Bs × Int):Prop:=b.1.length≤140737488355328
set_option maxRecDepth 100000 in
theorem bd_el (n:Nat) (cs:List Value) (y:DataW H × List MemPlace) (h:DataW.trod enc Tryd.prog W 0 (fun _=>true) true n 31 cs=some y) (hs:∀ m ∈ y.1.weights Tryd.prog 31,m≤reachBytes):∃ x,kBind.E (·<W.heap.size) W cs x∧QB x:=by
 obtain ⟨xs,_,_,_,hl,_⟩:=DataW.trod_struct Tryd.underlying31 h
 obtain ⟨c0,c1,rfl⟩:=list2G (hl.trans cO_bd)
 obtain ⟨y0,y1,n1,hx,_,h0,h1⟩:=trod_struct2 Tryd.underlying31 h
 subst hx
 simp only [cG_s,cG_i,List.drop_zero,List.drop_succ_cons,List.take_succ_cons,List.take_zero] at h0 h1
 obtain ⟨s,rfl,hsl⟩:=str_valG h0 (fun m hm=>hs m (by simp [DataW.weights,Tryd.underlying31,DataW.weightsEach,hm]))
 obtain ⟨i1,e1,_,_⟩:=DataW.trod_int Tryd.underlying3 h1
 simp only [List.cons.injEq,and_true] at e1
 subst e1
 exact ⟨(s,i1),rfl,hsl⟩
set_option maxRecDepth 100000 in
theorem po_open {r:Reach} {b0:Nat} {v:Value} {d:DataW H} {p:List MemPlace} (hv:Value.okWide Tryd.prog W r b0 26 v) (h:DataW.Trod enc Tryd.prog W 0 (fun _=>true) true 26 v d p) (hs:∀ m ∈ d.weights Tryd.prog 26,m≤reachBytes) :
  ∃ (q:Po) (a b c e:Value),v = .agg (poL a b c e q).toArray∧PoV (·<W.heap.size) W a b c e q∧PoS q:=by
 obtain ⟨cs,rfl,hsz⟩:=okWide_struct Tryd.underlying26 hv
 obtain ⟨fuel,hf⟩:=h
 obtain ⟨y0,y1,y2,y3,y4,y5,y6,y7,y8,n1,hx,hl,h0,h1,h2,h3,h4,h5,h6,h7,h8⟩:=trod_struct9 Tryd.underlying26 hf
 simp only at hx
 subst hx
 obtain ⟨c0,c1,c2,c3,c4,c5,c6,c7,c8,hcs⟩:=list9O (hl.trans cO_po)
 have hcs:cs.toList=[c0,c1,c2,c3,c4,c5,c6,c7,c8]:=hcs
 simp only [Value.cells,hcs,cG_i,cO_b,cO_ss,cO_prs,cO_bds,List.drop_zero,List.drop_succ_cons,List.take_succ_cons,List.take_zero] at h0 h1 h2 h3 h4 h5 h6 h7 h8
 have hw:∀ {t:TypeId} {y:DataW H × List MemPlace},True:=fun {_ _}=>trivial
 obtain ⟨l0,p0,k0,_,b0',q0,_⟩:=slg_open (K:=kStr) (Q:=QS) Tryd.underlying22 cG_s bG_s str_el h0 (fun m hm=>hs m (by simp [DataW.weights,Tryd.underlying26,DataW.weightsEach,hm]))
 obtain ⟨l1,p1,k1,_,b1,q1,_⟩:=slg_open (K:=kPair) (Q:=fun _=>True) Tryd.underlying23 cO_pr bO_pr pr_el h1 (fun m hm=>hs m (by simp [DataW.weights,Tryd.underlying26,DataW.weightsEach,hm]))
 obtain ⟨l2,p2,k2,_,b2,q2,_⟩:=slg_open (K:=kBind) (Q:=QB) Tryd.underlying24 cO_bd bO_bd bd_el h2 (fun m hm=>hs m (by simp [DataW.weights,Tryd.underlying26,DataW.weightsEach,hm]))
 obtain ⟨l3,p3,k3,_,b3,q3,_⟩:=slg_open (K:=kBind) (Q:=QB) Tryd.underlying24 cO_bd bO_bd bd_el h3 (fun m hm=>hs m (by simp [DataW.weights,Tryd.underlying26,DataW.weightsEach,hm]))
 obtain ⟨i4,e4,_⟩:=DataW.trod_bool Tryd.underlying4 h4
 obtain ⟨i5,e5,_,f5⟩:=DataW.trod_int Tryd.underlying3 h5
 obtain ⟨i6,e6,_,f6⟩:=DataW.trod_int Tryd.underlying3 h6
 obtain ⟨i7,e7,_,f7⟩:=DataW.trod_int Tryd.underlying3 h7
 obtain ⟨i8,e8,_,f8⟩:=DataW.trod_int Tryd.underlying3 h8
 simp only [List.cons.injEq,and_true] at e4 e5 e6 e7 e8
 subst e4 e5 e6 e7 e8
 refine ⟨⟨l0,l1,l2,l3,i4,i5,i6,i7,i8⟩,c0,c1,c2,c3,?_,⟨b0',b1,b2,b3⟩,⟨q0,q2,q3⟩⟩
 rw [← Array.toArray_toList (xs:=cs),hcs]
end
abbrev laidPo:List (String × DataW Unit):=[("math/bits.deBruijn32tab",Rows.laid_math_bits_deBruijn32tab),("math/bits.deBruijn64tab",Rows.laid_math_bits_deBruijn64tab),("internal/strconv.uint64pow10",Rows.laid_internal_strconv_uint64pow10),("unicode/utf8.acceptRanges",Rows.laid_unicode_utf8_acceptRanges),("weephole/policy.kinds",Rows.laid_weephole_policy_kinds),("unicode/utf8.first",Rows.laid_unicode_utf8_first)]
def kindNm:List Bs:=(List.range 9).map fun i=>[119,101,101,112,104,111,108,101,47,112,111,108,105,99,121,46,107,105,110,100,115,36,UInt8.ofNat (49+i)]
def kindsD:DataW Unit := .slice ((List.range 9).map fun i => .agg [.lit (.string (kindL.getD i ([],false)).1),.lit (.bool (kindL.getD i ([],false)).2),.iface "func" (.lit (.string (kindNm.getD i [])))]) []
def kindsO:DataW (List UInt8) := .slice ((List.range 9).map fun i => .agg [.lit (.string (kindL.getD i ([],false)).1),.lit (.bool (kindL.getD i ([],false)).2),.held (kindNm.getD i [])]) []
theorem kinds_out:kindsD.funcsOut=kindsO:=by kernel_rfl
theorem kinds_are:(Rows.laid_weephole_policy_kinds:DataW Unit) = .iface "func table" kindsD:=by kernel_rfl
theorem cO_kd:Tryd.prog.cellsOf 100=3:=by kernel_rfl
theorem cO_fn:Tryd.prog.cellsOf 98=1:=by kernel_rfl
theorem kinds_honeL:((List.range 9).map fun i=>(List.range Tryd.prog.funcs.size).filter fun f=>(Tryd.prog.funcs[f]?).any (·.name.toUTF8.data.toList == kindNm.getD i []))=(List.range 9).map fun i=>[kindF.getD i 0]:=by kernel_rfl
theorem kinds_hone (i:Nat) (hi:i<9):((List.range Tryd.prog.funcs.size).filter fun f=>(Tryd.prog.funcs[f]?).any (·.name.toUTF8.data.toList == kindNm.getD i []))=[kindF.getD i 0]:=by
 have h:=congrArg (fun l=>l[i]?) kinds_honeL
 simp only [List.getElem?_map,List.getElem?_range hi,Option.map_some,Option.some.injEq] at h
 exact h
theorem kindNm_cons:∀ i,i<9→∃ r,kindNm.getD i []=119 :: r:=by
 intro i hi
 have:i=0∨i=1∨i=2∨i=3∨i=4∨i=5∨i=6∨i=7∨i=8:=by omega
 rcases this with rfl | rfl | rfl | rfl | rfl | rfl | rfl | rfl | rfl <;> exact ⟨_,rfl⟩
set_option maxRecDepth 100000 in
theorem kt_of_laid {W:World} (h:laidMetH Tryd.prog laidPo W):KindT W:=by
 have hmem:("weephole/policy.kinds",(Rows.laid_weephole_policy_kinds:DataW Unit)) ∈ laidPo:=List.Mem.tail _ (List.Mem.tail _ (List.Mem.tail _ (List.Mem.tail _ (List.Mem.head _))))
 rw [kinds_are] at hmem
 obtain ⟨g',t',cs,fuel,p,hg',ht',hvar,hd⟩:=h.funcs hmem
 have hg:Tryd.prog.globalNamed "weephole/policy.kinds"=some 0:=by kernel_rfl
 have hty:(Tryd.prog.globals[0]?).map (·.type)=some 101:=by kernel_rfl
 obtain rfl:=Option.some.inj (hg.symm.trans hg')
 obtain rfl:=Option.some.inj (hty.symm.trans ht')
 rw [kinds_out] at hd
 rcases Deep.open_slice Tryd.underlying101 hd with ⟨_,hx⟩ | ⟨a,len,cap,m,n,D,Pl,hcs,_,hl,hmx,hmm,hx,hV⟩
 ·have:=congrArg Prod.fst hx
  simp only [kindsO] at this
  cases this
 ·have h1:=congrArg Prod.fst hx
  simp only [kindsO,DataW.slice.injEq] at h1
  have h1:=h1.1
  have hlen:len=9:=by
   have:=congrArg List.length h1
   simpa using this.symm
  subst hlen
  have hm9:9≤m:=by rw [hmm];split <;> omega
  have hD:∀ i,i<9→D i = .agg [.lit (.string (kindL.getD i ([],false)).1),.lit (.bool (kindL.getD i ([],false)).2),.held (kindNm.getD i [])]:=fun i hi=>by
   have h4:=congrArg (fun l=>l[i]?) h1
   simp only [List.getElem?_map,List.getElem?_range hi,Option.map_some,Option.some.injEq] at h4
   exact h4.symm
  obtain ⟨b,off,spot⟩:=a
  have hspot:spot=none:=by
   obtain ⟨cs',h2,h3⟩:=hV 0 (by omega)
   rw [cO_kd] at h2
   obtain ⟨_,h4,h5⟩:=World.cells?_some h2
   have h6:=h5 0 (by decide)
   rw [List.getElem?_eq_getElem (by rw [h4];decide)] at h6
   simpa [Addr.add] using World.cell?_spot h6
  subst hspot
  refine ⟨b,off,cap,?_,fun i hi=>?_⟩
  ·rw [World.var?_cell hg hvar 0]
   have h6:=congrArg (fun l=>l[0]?) hcs
   simpa using h6
  ·obtain ⟨cs',h2,h3⟩:=hV i (by omega)
   rw [cO_kd] at h2
   rw [hD i hi] at h3
   obtain ⟨hl3,hat⟩:=cells_atG h2
   obtain ⟨y0,y1,y2,n1,hx3,_,k0,k1,k2⟩:=Deep.trod_struct3 Tryd.underlying100 h3
   have hx4:=congrArg Prod.fst hx3
   simp only [DataW.agg.injEq,List.cons.injEq,and_true] at hx4
   obtain ⟨e0,e1,e2⟩:=hx4
   match cs',hl3 with
   | [c0,c1,c2],_ =>
    simp only [cG_s,cO_b,cO_fn,List.drop_zero,List.drop_succ_cons,List.take_succ_cons,List.take_zero] at k0 k1 k2
    obtain ⟨s,es,hs,_⟩:=DataW.trod_string Tryd.underlying9 k0
    obtain ⟨bb,eb,hb⟩:=DataW.trod_bool Tryd.underlying4 k1
    obtain ⟨r,hr⟩:=kindNm_cons i hi
    obtain ⟨d2,q2⟩:=y2
    simp only at e2
    subst e2
    have hf:=kinds_hone i hi
    rw [hr] at k2 hf
    have ev:=func_of_trod Tryd.underlying98 hf k2
    rw [hs] at e0
    rw [hb] at e1
    simp only [DataW.lit.injEq,Lit.string.injEq,Lit.bool.injEq] at e0 e1
    simp only [List.cons.injEq,and_true] at es eb
    have a0:=hat 0 (by decide)
    have a1:=hat 1 (by decide)
    have a2:=hat 2 (by decide)
    simp only [Nat.add_zero,List.getElem?_cons_zero,List.getElem?_cons_succ] at a0 a1 a2
    rw [es] at a0
    rw [eb] at a1
    rw [ev] at a2
    rw [e0,e1]
    exact ⟨a0,a1,a2⟩
theorem plain_of_laid {W:World} (h:laidMetH Tryd.prog laidPo W):laidMet Tryd.prog [("math/bits.deBruijn32tab",Rows.laid_math_bits_deBruijn32tab),("math/bits.deBruijn64tab",Rows.laid_math_bits_deBruijn64tab),("internal/strconv.uint64pow10",Rows.laid_internal_strconv_uint64pow10),("unicode/utf8.acceptRanges",Rows.laid_unicode_utf8_acceptRanges),("unicode/utf8.first",Rows.laid_unicode_utf8_first)] W:=by
 have e1:(laidPo.filter fun x=>x.2.handleName?.isSome)=[("weephole/policy.kinds",Rows.laid_weephole_policy_kinds)]:=by kernel_rfl
 unfold laidMetH at h
 rw [e1] at h
 exact h.1
theorem e28_of_laid {W:World} (h:laidMetH Tryd.prog laidPo W) (hm:∃ m,W.cell? ⟨2,0,none⟩=some (.int .i64 m)):E28 W:=by
 have hk:=kt_of_laid h
 have hp:=plain_of_laid h
 refine ⟨⟨?_,?_⟩,hk,hm⟩
 ·have ht:Lib.TabIs Tryd.prog W "math/bits.deBruijn32tab" .u8 (debL.map Int.ofNat):=Lib.tabIs_of_head (P:=Tryd.prog) (n:=32) (show Tryd.prog.globalNamed "math/bits.deBruijn32tab"=some 1 by kernel_rfl) (show (Tryd.prog.globals[1]?).map (·.type)=some 123 by kernel_rfl) Tryd.underlying123 Tryd.underlying5 (by kernel_rfl) (by kernel_rfl) (show laidMet Tryd.prog (("math/bits.deBruijn32tab",Lib.tabData .u8 (debL.map Int.ofNat)) :: [("math/bits.deBruijn64tab",Rows.laid_math_bits_deBruijn64tab),("internal/strconv.uint64pow10",Rows.laid_internal_strconv_uint64pow10),("unicode/utf8.acceptRanges",Rows.laid_unicode_utf8_acceptRanges),("unicode/utf8.first",Rows.laid_unicode_utf8_first)]) W from hp)
  intro i hi
  have h1:=ht.cell (show Tryd.prog.globalNamed "math/bits.deBruijn32tab"=some 1 by kernel_rfl) i (by simpa [debL] using hi)
  rw [h1]
  have hl:i<debL.length:=by simpa [debL] using hi
  rw [List.getD_eq_getElem?_getD,List.getD_eq_getElem?_getD,List.getElem?_map,List.getElem?_eq_getElem hl]
  rfl
 ·exact Lib.tabIs_of_head (P:=Tryd.prog) (n:=20) (show Tryd.prog.globalNamed "internal/strconv.uint64pow10"=some 5 by kernel_rfl) (show (Tryd.prog.globals[5]?).map (·.type)=some 145 by kernel_rfl) Tryd.underlying145 Tryd.underlying79 (by kernel_rfl) (by kernel_rfl) (show laidMet Tryd.prog (("internal/strconv.uint64pow10",Lib.tabData .u64 Lib.pow10Tab) :: [("unicode/utf8.acceptRanges",Rows.laid_unicode_utf8_acceptRanges),("unicode/utf8.first",Rows.laid_unicode_utf8_first)]) W from hp.tail.tail)
open Go.ChangeShapes Go.WideShapes Go.ChangeAt Go.WideMaps Go.WideElems Go.RowKit Go.Joins
abbrev firstL:List (String × DataW Unit):=[("unicode/utf8.first",Rows.laid_unicode_utf8_first)]
noncomputable def wPo (os:Os):World:=(World.doorLaid Tryd.prog 400 os).layVars Tryd.prog firstL
theorem wPo_os (os:Os):(wPo os).os=os:=World.layVars_os _ _ _
theorem wPo_met (os:Os) (args:Array Value):laidMetH Tryd.prog laidPo ((wPo os).forCall (fun _ _=>0) ⟨#[],args,[]⟩).memory:=by
 refine laidMetH_of_parts3 (fuel:=8) ?_ (by kernel_rfl) (by kernel_rfl)
 have e1:(laidPo.filter fun x=>x.2.handleName?.isNone)=[("math/bits.deBruijn32tab",Rows.laid_math_bits_deBruijn32tab),("math/bits.deBruijn64tab",Rows.laid_math_bits_deBruijn64tab),("internal/strconv.uint64pow10",Rows.laid_internal_strconv_uint64pow10),("unicode/utf8.acceptRanges",Rows.laid_unicode_utf8_acceptRanges),("unicode/utf8.first",Rows.laid_unicode_utf8_first)]:=by kernel_rfl
 rw [e1]
 refine laidMet_layVars (w0:=World.doorLaid Tryd.prog 400 os) ["unicode/utf8.first"] [1,6,5,4] ?_ (by kernel_rfl) (by kernel_rfl) (LaidIn.of_run _ 8 (by kernel_rfl) (by kernel_rfl) (by kernel_rfl) (by kernel_rfl))
 have e2:(List.filter (fun x:String × DataW Unit=>["unicode/utf8.first"].contains x.1) [("math/bits.deBruijn32tab",Rows.laid_math_bits_deBruijn32tab),("math/bits.deBruijn64tab",Rows.laid_math_bits_deBruijn64tab),("internal/strconv.uint64pow10",Rows.laid_internal_strconv_uint64pow10),("unicode/utf8.acceptRanges",Rows.laid_unicode_utf8_acceptRanges),("unicode/utf8.first",Rows.laid_unicode_utf8_first)])=firstL:=by kernel_rfl
 rw [e2]
 simp [World.memory,World.forCall,Input.heap,wPo]
end Go.Proofs.YtbijamcoibonkaaDoor
