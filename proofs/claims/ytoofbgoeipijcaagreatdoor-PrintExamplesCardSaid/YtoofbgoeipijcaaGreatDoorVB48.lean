/-
 A part.
-/
import Derived.JoinedOf
import Derived.KernelRfl
import Derived.HandedShaped
import Derived.Test.YtoofbgoeipijcaaGreatDoorVB8
import Derived.LaidMore
import Derived.Stop.Joined
import Derived.Stop.LaidErr
import Derived.Deep.Slices
import Derived.Deep.Strs
import Derived.MakeChecks
namespace Go.Proofs.YtoofbgoeipijcaaGreatDoor
set_option linter.all false
set_option maxRecDepth 100000
theorem factA:(Tryz.pinned.checked.prog.mayEnter)=true:=by kernel_rfl
set_option maxRecDepth 100000
theorem factB:((Rows.printTextsRow.lifted == Tryz.pinned.checked.prog.liftsFinal))=true:=by kernel_rfl
set_option maxRecDepth 100000
theorem factC:((Tryz.pinned.checked.prog.make == some Rows.printTextsRow.make))=true:=by kernel_rfl
set_option maxRecDepth 100000
theorem factLaid:(laidOutB Tryz.pinned.checked.prog)=true:=by kernel_rfl
theorem factMaps:(mapsRowed Tryz.pinned.checked.prog)=true:=by kernel_rfl
theorem factStops:((Tryz.pinned.checked.prog.stops == []))=true:=by kernel_rfl
theorem factKnobs:((Tryz.pinned.checked.prog.stopKnobs == []))=true:=by kernel_rfl
theorem factKeys:((Rows.printTextsRow.plainKeys == Tryz.pinned.checked.prog.plainKeys))=true:=by kernel_rfl
theorem factHeard:(Tryz.pinned.checked.prog.stopsHeard)=true:=by kernel_rfl
theorem andT {a b:Bool} (h:a=true) (k:b=true):(a && b)=true:=by rw [h,k];rfl
end Go.Proofs.YtoofbgoeipijcaaGreatDoor
namespace Go.Proofs.YtoofbgoeipijcaaGreatDoor
set_option linter.all false
open Go.ChangeShapes Go.WideShapes Go.ChangeAt Go.WideMaps Go.WideElems Go.RowKit
variable {H:Type} {enc:TypeId × Value->H}
theorem handed_and_shaped {a:Assume} {C:Checked} {os:Os} {f:FuncId} {fn:Func} {s:ChangeSpec} {conds:List PathCond} {apart fresh handsOn again:Bool} {X:World->Array Value->Prop}
  (hX:∀ (w w':World) (args:Array Value),w.heap=w'.heap->X w args->X w' args)
  (own:ownKnob C.prog.godebug=none) (started:os.Started) (noInit:C.prog.inits.idxOf? f=none) (hfn:C.prog.funcs[f]?=some fn)
  (witness:∃ (w:World) (tape:Tape) (i:Input),w.os=os/\(w.forCall tape i).Shaped C.prog/\i.vars=[]/\Input.okWide C.prog (w.forCall tape i) .any w.heap.size f i /\
   ((s.pre enc C.prog fn conds apart (w.forCall tape i).memory i.args/\X (w.forCall tape i).memory i.args)/\sizedMet enc C.prog fn (OpenSpec.ofChange s) apart (w.forCall tape i).memory i.args)/\a.holds C.prog (lone (Frame.enter C.prog f i.args .normal) [] (w.forCall tape i)))
  (contract:∀ (W:World) (base:Nat) (args:Array Value) (ds gs:List (DataW H)) (before:List MemPlace),
   (∀ (j:Nat) t v,fn.params[j]?=some t->args[j]?=some v->Value.okWide C.prog W .any base t v) ->
   DataW.Whole enc C.prog fn.params.toList s.vars apart W args.toList ds gs before ->
   conds.all (PathCond.test C.prog ⟨fn.params.toList,ds,s.plain.varTypes C.prog,gs⟩)=true ->
   (DataW.weightsEach C.prog (fn.params.toList++s.plain.varTypes C.prog) (ds++gs)).all (·<=reachBytes)=true->X W args ->
   W.ShapedOpen C.prog ->
   a.holds C.prog (lone (Frame.enter C.prog f args .normal) [] W) ->
   Calls C.prog f args W fun e W'=>∃ v,e=.returned v/\s.post enc C.prog fn apart fresh handsOn again W args v W') :
  ReturnsInHanded a C os f .any (fun w args=>(s.pre enc C.prog fn conds apart w args/\X w args)/\sizedMet enc C.prog fn (OpenSpec.ofChange s) apart w args) (s.post enc C.prog fn apart fresh handsOn again):=by
 refine returnsInHanded_of_calls own started noInit witness ?_
 intro w tape i _ hsh _ hok hpre hholds
 obtain ⟨_,_,_,fn',hfn',_,_,_,_,hval⟩:=hok
 have e:fn'=fn:=Option.some.inj (hfn'.symm.trans hfn)
 subst e
 obtain ⟨⟨⟨ds,gs,before,hw,hc⟩,hx⟩,hz⟩:=hpre
 have hw':=DataW.Whole.of_heap (w':=w.forCall tape i) (by rfl) hw
 refine (contract (w.forCall tape i) w.heap.size i.args ds gs before hval hw' hc (hz.weights hw) (hX _ _ _ (by rfl) hx) hsh hholds).mono fun e W' ⟨v,he,hp⟩=>?_
 subst he
 exact ChangeSpec.post_blind hp
open Go.ChangeShapes Go.WideShapes Go.ChangeAt Go.WideMaps Go.WideElems Go.RowKit
abbrev laidPg:List (String × DataW Unit):=[("math/bits.deBruijn32tab",Rows.laid_math_bits_deBruijn32tab),("math/bits.deBruijn64tab",Rows.laid_math_bits_deBruijn64tab),("internal/strconv.uint64pow10",Rows.laid_internal_strconv_uint64pow10),("weephole/prog.keywords",Rows.laid_weephole_prog_keywords),("weephole/prog.forms",Rows.laid_weephole_prog_forms)]
theorem door_met (os:Os) (args:Array Value):laidMetH Tryz.prog laidPg ((World.doorLaid Tryz.prog 400 os).forCall (fun _ _=>0) ⟨#[],args,[]⟩).memory :=
 laidMetH_of_parts3 (fuel:=8) (laidMet_of_run' 8 (by kernel_rfl) (by kernel_rfl)) (by kernel_rfl) (by kernel_rfl)
def strsD (zs:List Bs):DataW Unit := .slice (zs.map fun z => .lit (.string z)) []
def formsD (fs:List (Bool × Bool × Int)):DataW Unit := .agg (fs.map fun f => .agg [.lit (.bool f.1),.lit (.bool f.2.1),.lit (.int .i64 f.2.2)])
theorem kw_of {W:World} {rest:List (String × DataW Unit)} (h:laidMet Tryz.prog (("weephole/prog.keywords",strsD kwL) :: rest) W) :
  ∃ b off c,W.cell? ⟨3,0,none⟩=some (.slice (some ⟨b,off,none⟩) 16 c)/\∀ j,j<16->W.cell? ⟨b,off+j,none⟩=some (.string ⟨(kwL.getD j []).toArray⟩):=by
 obtain ⟨ps,⟨g',t',cs,fuel,p,q,hg',ht',hvar,hd,_,_⟩,_⟩:=h
 have hg:Tryz.prog.globalNamed "weephole/prog.keywords"=some 3:=by kernel_rfl
 have hty:(Tryz.prog.globals[3]?).map (·.type)=some 22:=by kernel_rfl
 obtain rfl:=Option.some.inj (hg.symm.trans hg')
 obtain rfl:=Option.some.inj (hty.symm.trans ht')
 rcases Deep.open_slice1 Tryz.underlying22 (by kernel_rfl) hd with ⟨_,hx⟩ | ⟨a,len,cap,m,n,V,D,Pl,hcs,_,hl,_,hmm,hx,hV⟩
 ·cases hx
 ·have h1:kwL.map (fun z=>(DataW.lit (.string z):DataW Unit))=(List.range len).map D:=by
   have:=congrArg Prod.fst hx
   simp only [strsD,DataW.slice.injEq] at this
   exact this.1
  have hlen:len=16:=by
   have:=congrArg List.length h1
   simpa [kwL] using this.symm
  subst hlen
  have hm16:16<=m:=by rw [hmm];split <;> omega
  have key:∀ j,j<16->W.cell? (a.add j)=some (.string ⟨(kwL.getD j []).toArray⟩):=fun j hj=>by
   obtain ⟨h2,h3⟩:=hV j (by omega)
   obtain ⟨s,e1,e2,_⟩:=DataW.trod_string Tryz.underlying9 h3
   simp only [List.cons.injEq,and_true] at e1
   have e3:D j=.lit (.string s.data.toList):=congrArg Prod.fst e2
   have h4:=congrArg (fun l=>l[j]?) h1
   have hjk:j<kwL.length:=by simpa [kwL] using hj
   simp only [List.getElem?_map,List.getElem?_range hj,List.getElem?_eq_getElem hjk,Option.map_some,Option.some.injEq,e3,DataW.lit.injEq,Lit.string.injEq] at h4
   rw [h2,e1,List.getD_eq_getElem?_getD,List.getElem?_eq_getElem hjk,Option.getD_some,h4]
  obtain ⟨b,off,spot⟩:=a
  have hspot:spot=none:=by simpa [Addr.add] using World.cell?_spot (key 0 (by omega))
  subst hspot
  have hadd:∀ j,(⟨b,off,none⟩:Addr).add j=⟨b,off+j,none⟩:=fun j=>by unfold Addr.add;split <;> simp_all
  refine ⟨b,off,cap,?_,fun j hj=>by rw [<- hadd];exact key j hj⟩
  have h5:=World.var?_cell hg hvar 0
  rw [h5]
  have h6:=congrArg (fun l=>l[0]?) hcs
  simpa using h6
theorem fo_of {W:World} {rest:List (String × DataW Unit)} (h:laidMet Tryz.prog (("weephole/prog.forms",formsD fieldsL) :: rest) W) :
  ∀ k,k<13->W.cell? ⟨4,3*k,none⟩=some (.bool (fieldsL.getD k (false,false,0)).1)/\W.cell? ⟨4,3*k+1,none⟩=some (.bool (fieldsL.getD k (false,false,0)).2.1)/\W.cell? ⟨4,3*k+2,none⟩=some (.int .i64 (fieldsL.getD k (false,false,0)).2.2):=by
 obtain ⟨ps,⟨g',t',cs,fuel,p,q,hg',ht',hvar,hd,_,_⟩,_⟩:=h
 have hg:Tryz.prog.globalNamed "weephole/prog.forms"=some 4:=by kernel_rfl
 have hty:(Tryz.prog.globals[4]?).map (·.type)=some 232:=by kernel_rfl
 obtain rfl:=Option.some.inj (hg.symm.trans hg')
 obtain rfl:=Option.some.inj (hty.symm.trans ht')
 obtain ⟨xs,m,_,hx,_,hlen,hf⟩:=DataW.trod_array Tryz.underlying232 hd
 have hc3:Tryz.prog.cellsOf 231=3:=by kernel_rfl
 have hcb:Tryz.prog.cellsOf 4=1:=by kernel_rfl
 have hci:Tryz.prog.cellsOf 3=1:=by kernel_rfl
 have h1:fieldsL.map (fun f=>(DataW.agg [.lit (.bool f.1),.lit (.bool f.2.1),.lit (.int .i64 f.2.2)]:DataW Unit))=xs.map (·.1):=by
  have:=congrArg Prod.fst hx
  simpa only [formsD,DataW.agg.injEq] using this
 intro k hk
 have hk2:k<fieldsL.length:=by simpa [fieldsL] using hk
 have hkx:k<xs.length:=by omega
 have h2:=hf k hk
 rw [hc3,List.getElem?_eq_getElem hkx] at h2
 have h4:=congrArg (fun l=>l[k]?) h1
 simp only [List.getElem?_map,List.getElem?_eq_getElem hk2,List.getElem?_eq_getElem hkx,Option.map_some,Option.some.injEq] at h4
 obtain ⟨y0,y1,y2,n1,hx3,h30,k0,k1,k2⟩:=Deep.trod_struct3 Tryz.underlying231 h2
 rw [hx3] at h4
 simp only [DataW.agg.injEq,List.cons.injEq,and_true] at h4
 obtain ⟨g0,g1,g2⟩:=h4
 rw [hc3] at h30
 simp only [hcb,hci] at k0 k1 k2
 obtain ⟨b0,e0,q0⟩:=DataW.trod_bool Tryz.underlying4 k0
 obtain ⟨b1,e1,q1⟩:=DataW.trod_bool Tryz.underlying4 k1
 obtain ⟨i2,e2,q2,_⟩:=DataW.trod_int Tryz.underlying3 k2
 rw [q0] at g0
 rw [q1] at g1
 rw [q2] at g2
 simp only [DataW.lit.injEq,Lit.bool.injEq,Lit.int.injEq,true_and] at g0 g1 g2
 have hgd:fieldsL.getD k (false,false,0)=fieldsL[k]:=by rw [List.getD_eq_getElem?_getD,List.getElem?_eq_getElem hk2,Option.getD_some]
 rw [hgd,g0,g1,g2]
 have c0:=congrArg (fun l=>l[0]?) e0
 have c1:=congrArg (fun l=>l[0]?) e1
 have c2:=congrArg (fun l=>l[0]?) e2
 simp only [List.getElem?_take,List.getElem?_drop,Nat.add_zero,Nat.zero_lt_one,if_true,Nat.reduceLT,if_pos,List.getElem?_cons_zero,Nat.zero_add] at c0 c1 c2
 have v0:=World.var?_cell hg hvar (3*k)
 have v1:=World.var?_cell hg hvar (3*k+1)
 have v2:=World.var?_cell hg hvar (3*k+2)
 rw [v0,v1,v2]
 rw [Nat.mul_comm k 3] at c0 c1 c2
 exact ⟨by simpa using c0,by simpa using c1,by simpa using c2⟩
theorem pre_of_laid {W:World} (h:laidMetH Tryz.prog laidPg W):PrE W:=by
 rw [MakeChecks.laidMetH_plain _ _ _ (by kernel_rfl)] at h
 refine ⟨⟨?_,?_⟩,?_⟩
 ·exact kw_of (show laidMet Tryz.prog (("weephole/prog.keywords",strsD kwL) :: [("weephole/prog.forms",Rows.laid_weephole_prog_forms)]) W from h.tail.tail.tail)
 ·exact fo_of (show laidMet Tryz.prog (("weephole/prog.forms",formsD fieldsL) :: []) W from h.tail.tail.tail.tail)
 ·exact Lib.tabIs_of_head (P:=Tryz.prog) (n:=20) (show Tryz.prog.globalNamed "internal/strconv.uint64pow10"=some 5 by kernel_rfl) (show (Tryz.prog.globals[5]?).map (·.type)=some 234 by kernel_rfl) Tryz.underlying234 Tryz.underlying35 (by kernel_rfl) (by kernel_rfl) (show laidMet Tryz.prog (("internal/strconv.uint64pow10",Lib.tabData .u64 Lib.pow10Tab) :: [("weephole/prog.keywords",Rows.laid_weephole_prog_keywords),("weephole/prog.forms",Rows.laid_weephole_prog_forms)]) W from h.tail.tail)
end Go.Proofs.YtoofbgoeipijcaaGreatDoor
