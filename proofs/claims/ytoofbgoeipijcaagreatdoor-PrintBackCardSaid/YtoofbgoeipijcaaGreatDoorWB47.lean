/-
 A part.
-/
import Derived.Test.YtoofbgoeipijcaaGreatDoorWSPcC
import Derived.Deep.Slices
namespace Go.Proofs.YtoofbgoeipijcaaGreatDoor
set_option maxRecDepth 100000
set_option linter.all false
open Go.RowKit Go.Shelf
attribute [local go_sem] Oper.semAt_some
def TB (t:TypeId) (w:World) (k:Nat):Prop:=∃ cur fz,w.heap[k]?=some (.cells cur t fz)
theorem TB.keep {t:TypeId} {w w':World} {k:Nat} (h:TB t w k) (e:w'.heap[k]?=w.heap[k]?):TB t w' k:=let ⟨c,f,h⟩:=h;⟨c,f,e.trans h⟩
theorem TB.own {B e n m:Nat} {w:World} {v:Value} {xs:List Value} (h:w.ownsRow B e m v n xs):∀ k,v.ownBlock=some k->TB e w k:=by
 intro k hk
 rcases h.2 with ⟨rfl,_⟩ | ⟨g,cap,cur,rfl,_,hg,_⟩
 ·cases hk
 ·cases hk;exact ⟨cur,(0,0),hg⟩
def OwT {α:Type} (K:EK α) (R:Nat->Prop) (e:TypeId) (w:World) (v:Value) (l:List α):Prop :=
 ∃ css,Each K R w css l/\w.ownsRow 0 e K.n v l.length css.flatten/\∀ k,v.ownBlock=some k->R k
theorem OwT.slc {α:Type} {K:EK α} {R:Nat->Prop} {e:TypeId} {w:World} {v:Value} {l:List α} (h:OwT K R e w v l):∃ p c,v=.slice p l.length c:=let ⟨_,_,h,_⟩:=h;own_sliceG h
theorem OwT.keep {α:Type} {K:EK α} {R R':Nat->Prop} {e:TypeId} {w w':World} {v:Value} {l:List α} (h:OwT K R e w v l) (hf:∀ k,R k->R' k/\w'.heap[k]?=w.heap[k]?):OwT K R' e w' v l :=
 let ⟨css,h1,h2,h3⟩:=h;⟨css,h1.keep hf,owns_keepG h2 fun j hj=>(hf j (h3 j hj)).2,fun k hk=>(hf k (h3 k hk)).1⟩
def kInT:EK In where
 n:=7
 pos:=by omega
 E R w cs x:=∃ av,cs=[.int .u8 (x.kind:Int),.int .u8 (x.op:Int),.string ⟨x.dst.toArray⟩,.string ⟨x.nm.toArray⟩,av,.int .i64 x.pos.1,.int .i64 x.pos.2]/\SlG kAg (fun k=>R k/\TB 43 w k) w av x.args
 len h:=by obtain ⟨av,rfl,_⟩:=h;rfl
 one h:=by obtain ⟨av,rfl,hs⟩:=h;intro u hu;simp at hu;rcases hu with rfl | rfl | rfl | rfl | rfl | rfl | rfl <;> first | rfl | exact hs.one
 keep h hf:=let ⟨av,e,hs⟩:=h;⟨av,e,hs.keep fun k hk=>⟨⟨(hf k hk.1).1,hk.2.keep (hf k hk.1).2⟩,(hf k hk.1).2⟩⟩
theorem inT_in {R:Nat->Prop} {w:World} {cs:List Value} {x:In} (h:kInT.E R w cs x):kIn.E R w cs x:=let ⟨av,e,hs⟩:=h;⟨av,e,hs.weaken fun _ hk=>hk.1⟩
theorem OwT.sl {R:Nat->Prop} {e:TypeId} {w:World} {v:Value} {l:List In} (h:OwT kInT R e w v l) (hl:l.length<=140737488355328):SlG kIn R w v l:=by
 obtain ⟨css,h1,h2,h3⟩:=h
 exact SlG.ofOwn (K:=kIn) ⟨h1.1,fun i hi hi'=>inT_in (h1.2 i hi hi')⟩ h2 hl h3
theorem inl_bare {P:In->Prop} (hP:∀ x y:In,bareI x=bareI y->P y->P x) {l m:List In} (h:l.map bareI=m.map bareI) (hm:∀ y ∈ m,P y):∀ x ∈ l,P x:=by
 intro x hx
 have:bareI x ∈ m.map bareI:=by rw [<- h];exact List.mem_map.2 ⟨x,hx,rfl⟩
 obtain ⟨y,hy,e⟩:=List.mem_map.1 this
 exact hP x y e.symm (hm y hy)
theorem num_bare {p q:Pg} (h:bareP p=bareP q) (hk:NumP q):NumP p:=by
 have hP:∀ x y:In,bareI x=bareI y->NumI y->NumI x:=fun x y e h=>by
  unfold NumI at h ⊢
  rw [bI_args e];exact h
 refine ⟨fun f hf=>?_,inl_bare hP (bP_main h) hk.main⟩
 have:bareF f ∈ q.funcs.map bareF:=by rw [<- bP_funcs h];exact List.mem_map.2 ⟨f,hf,rfl⟩
 obtain ⟨g,hg,e⟩:=List.mem_map.1 this
 exact inl_bare hP (bF_code e.symm) (hk.funcs g hg)
theorem print_good0 {q:Pg} {S:Bs} (h:printM q=(S,0)):(checkM q).2=0/\S=textT (linesT q)/\(textT (linesT q)).length<=65536:=by
 unfold printM at h
 by_cases h0:(checkM q).2=0
 ·rw [if_neg (by rw [h0];decide)] at h
  split at h
  ·have h1:=congrArg Prod.snd h;simp only at h1;omega
  ·exact ⟨h0,(congrArg Prod.fst h).symm,by omega⟩
 ·rw [if_pos h0] at h;have h1:=congrArg Prod.snd h;simp only at h1;omega
theorem print_bare {p q:Pg} {S:Bs} (h:bareP p=bareP q) (nq:NumP q) (hq:printM q=(S,0)):printM p=(S,0):=by
 obtain ⟨h1,h2,h3⟩:=print_good0 hq
 have h4:(checkM p).2=0:=(check_bare p q h).trans h1
 have h5:=(text_iff p q h4 h1 (num_bare h nq) nq).2 h
 unfold printM
 rw [if_neg (by rw [h4];decide),h5,if_neg (by omega),h2]
open Go.ChangeShapes Go.WideShapes Go.ChangeAt Go.RowKit Go.Joins
def u8v (c:UInt8):Value := .int .u8 (c.toNat:Int)
def Bys (R:Nat->Prop) (w:World) (v:Value) (b:List UInt8):Prop:=Sl R w v (b.map u8v)
theorem Bys.op {R:Nat->Prop} {w:World} {v:Value} {xs:List UInt8} (h:Bys R w v xs) :
  ∃ p c,v=.slice p xs.length c/\xs.length<=c/\c<=maxLen/\xs.length<=140737488355328/\RowR R w p (xs.map u8v):=by
 obtain ⟨p,c,e,h1,h2,h3,hr⟩:=h
 rw [List.length_map] at e h1 h3
 exact ⟨p,c,e,h1,h2,h3,hr⟩
theorem Bys.keep {R R':Nat->Prop} {w w':World} {v:Value} {xs:List UInt8} (h:Bys R w v xs) (hf:∀ k,R k->R' k/\w'.heap[k]?=w.heap[k]?):Bys R' w' v xs:=Sl.keep h hf
theorem Bys.below {R:Nat->Prop} {w w':World} {v:Value} {xs:List UInt8} (h:Bys R w v xs) (hR:∀ k,R k->k<w.heap.size) (hb:Below w.heap.size w w'):Bys R w' v xs:=Sl.keep h fun k hk=>⟨hk,hb.block k (hR k hk)⟩
section
variable {H:Type} {enc:TypeId × Value->H} {W:World}
theorem wf_u8 {x:Int} (h:(Lit.int .u8 x).wf=true):0<=x/\x<=255:=by
 have h1:IntKind.u8.min=0:=by decide
 have h2:IntKind.u8.max=255:=by decide
 simp [Lit.wf] at h
 omega
theorem wf_u64 {x:Int} (h:(Lit.int .u64 x).wf=true):0<=x/\x<=18446744073709551615:=by
 have h1:IntKind.u64.min=0:=by decide
 have h2:IntKind.u64.max=18446744073709551615:=by decide
 simp [Lit.wf] at h
 omega
end
open Go.ChangeShapes Go.WideShapes Go.ChangeAt Go.Joins
theorem weightsAll_memG {H:Type} {P:Program} {e:TypeId}:∀ {l:List (DataW H)} {d:DataW H},d ∈ l->∀ m ∈ d.weights P e,m ∈ DataW.weightsAll P e l
 | d' :: l,d,h,m,hm=>by
  rw [DataW.weightsAll,List.mem_append]
  rcases List.mem_cons.1 h with rfl | h
  ·exact .inl hm
  ·exact .inr (weightsAll_memG h m hm)
theorem trod_struct5G {H:Type} {enc:TypeId × Value->H} {W:World} {P:Program} {t:TypeId} {f0 f1 f2 f3 f4:Field} {fuel:Nat} {cs:List Value} {x:DataW H × List MemPlace} (ht:P.underlying t=some (.struct #[f0,f1,f2,f3,f4])) (h:DataW.trod enc P W 0 (fun _=>true) true fuel t cs=some x) :
  ∃ y0 y1 y2 y3 y4 n,x.1=.agg [y0.1,y1.1,y2.1,y3.1,y4.1]/\cs.length=P.cellsOf t/\DataW.trod enc P W 0 (fun _=>true) true n f0.type ((cs.drop f0.offset).take (P.cellsOf f0.type))=some y0 /\
   DataW.trod enc P W 0 (fun _=>true) true n f1.type ((cs.drop f1.offset).take (P.cellsOf f1.type))=some y1/\DataW.trod enc P W 0 (fun _=>true) true n f2.type ((cs.drop f2.offset).take (P.cellsOf f2.type))=some y2 /\
   DataW.trod enc P W 0 (fun _=>true) true n f3.type ((cs.drop f3.offset).take (P.cellsOf f3.type))=some y3/\DataW.trod enc P W 0 (fun _=>true) true n f4.type ((cs.drop f4.offset).take (P.cellsOf f4.type))=some y4:=by
 obtain ⟨xs,n,_,rfl,hl,hlen,hf⟩:=DataW.trod_struct ht h
 match xs,hlen with
 | [y0,y1,y2,y3,y4],_=>exact ⟨y0,y1,y2,y3,y4,n,by simp,hl,by simpa using hf 0 f0 rfl,by simpa using hf 1 f1 rfl,by simpa using hf 2 f2 rfl,by simpa using hf 3 f3 rfl,by simpa using hf 4 f4 rfl⟩
theorem trod_struct6G {H:Type} {enc:TypeId × Value->H} {W:World} {P:Program} {t:TypeId} {f0 f1 f2 f3 f4 f5:Field} {fuel:Nat} {cs:List Value} {x:DataW H × List MemPlace} (ht:P.underlying t=some (.struct #[f0,f1,f2,f3,f4,f5])) (h:DataW.trod enc P W 0 (fun _=>true) true fuel t cs=some x) :
  ∃ y0 y1 y2 y3 y4 y5 n,x.1=.agg [y0.1,y1.1,y2.1,y3.1,y4.1,y5.1]/\cs.length=P.cellsOf t/\DataW.trod enc P W 0 (fun _=>true) true n f0.type ((cs.drop f0.offset).take (P.cellsOf f0.type))=some y0 /\
   DataW.trod enc P W 0 (fun _=>true) true n f1.type ((cs.drop f1.offset).take (P.cellsOf f1.type))=some y1/\DataW.trod enc P W 0 (fun _=>true) true n f2.type ((cs.drop f2.offset).take (P.cellsOf f2.type))=some y2 /\
   DataW.trod enc P W 0 (fun _=>true) true n f3.type ((cs.drop f3.offset).take (P.cellsOf f3.type))=some y3/\DataW.trod enc P W 0 (fun _=>true) true n f4.type ((cs.drop f4.offset).take (P.cellsOf f4.type))=some y4 /\
   DataW.trod enc P W 0 (fun _=>true) true n f5.type ((cs.drop f5.offset).take (P.cellsOf f5.type))=some y5:=by
 obtain ⟨xs,n,_,rfl,hl,hlen,hf⟩:=DataW.trod_struct ht h
 match xs,hlen with
 | [y0,y1,y2,y3,y4,y5],_=>exact ⟨y0,y1,y2,y3,y4,y5,n,by simp,hl,by simpa using hf 0 f0 rfl,by simpa using hf 1 f1 rfl,by simpa using hf 2 f2 rfl,by simpa using hf 3 f3 rfl,by simpa using hf 4 f4 rfl,by simpa using hf 5 f5 rfl⟩
theorem list2G {α:Type} {l:List α} (h:l.length=2):∃ a b,l=[a,b]:=by
 match l,h with
 | [a,b],_=>exact ⟨a,b,rfl⟩
theorem list5G {α:Type} {l:List α} (h:l.length=5):∃ a b c d e,l=[a,b,c,d,e]:=by
 match l,h with
 | [a,b,c,d,e],_=>exact ⟨a,b,c,d,e,rfl⟩
theorem list7G {α:Type} {l:List α} (h:l.length=7):∃ a b c d e f g,l=[a,b,c,d,e,f,g]:=by
 match l,h with
 | [a,b,c,d,e,f,g],_=>exact ⟨a,b,c,d,e,f,g,rfl⟩
theorem cG_s:Tryz.prog.cellsOf 9=1:=by kernel_rfl
theorem cG_u8:Tryz.prog.cellsOf 5=1:=by kernel_rfl
theorem cG_u64:Tryz.prog.cellsOf 35=1:=by kernel_rfl
theorem cG_i:Tryz.prog.cellsOf 3=1:=by kernel_rfl
theorem cG_pos:Tryz.prog.cellsOf 39=2:=by kernel_rfl
theorem cG_ag:Tryz.prog.cellsOf 43=2:=by kernel_rfl
theorem cG_ar:Tryz.prog.cellsOf 87=2:=by kernel_rfl
theorem cG_in:Tryz.prog.cellsOf 41=7:=by kernel_rfl
theorem cG_fu:Tryz.prog.cellsOf 74=5:=by kernel_rfl
theorem cG_pg:Tryz.prog.cellsOf 27=5:=by kernel_rfl
theorem cG_as:Tryz.prog.cellsOf 37=1:=by kernel_rfl
theorem cG_is:Tryz.prog.cellsOf 25=1:=by kernel_rfl
theorem cG_ss:Tryz.prog.cellsOf 22=1:=by kernel_rfl
theorem cG_ars:Tryz.prog.cellsOf 23=1:=by kernel_rfl
theorem cG_fs:Tryz.prog.cellsOf 24=1:=by kernel_rfl
theorem bG_s:1<=Tryz.prog.bytesOf 9:=of_decide_eq_true (by kernel_rfl)
theorem bG_ag:1<=Tryz.prog.bytesOf 43:=of_decide_eq_true (by kernel_rfl)
theorem bG_ar:1<=Tryz.prog.bytesOf 87:=of_decide_eq_true (by kernel_rfl)
theorem bG_in:1<=Tryz.prog.bytesOf 41:=of_decide_eq_true (by kernel_rfl)
theorem bG_fu:1<=Tryz.prog.bytesOf 74:=of_decide_eq_true (by kernel_rfl)
theorem by24_ag:Tryz.prog.bytesOf 43=24:=by kernel_rfl
section
variable {H:Type} {enc:TypeId × Value->H} {W:World}
theorem cells_atG {W:World} {b off k n:Nat} {cs:List Value} (h:W.cells? 0 ((⟨b,off,none⟩:Addr).add (k*n)) n=some cs):cs.length=n/\∀ i,i<n->W.cell? ⟨b,off+k*n+i,none⟩=cs[i]?:=by
 obtain ⟨_,h1,h2⟩:=World.cells?_some h
 refine ⟨h1,fun i hi=>?_⟩
 have hadd:∀ o j,(⟨b,o,none⟩:Addr).add j=⟨b,o+j,none⟩:=fun o j=>by unfold Addr.add;split <;> simp_all
 rw [<- h2 i hi,hadd,hadd]
theorem slg_open {α:Type} {K:EK α} {Q:α->Prop} {tS e:TypeId} (ht:Tryz.prog.underlying tS=some (.slice e)) (hc:Tryz.prog.cellsOf e=K.n) (hb:1<=Tryz.prog.bytesOf e)
  (hel:∀ (n:Nat) (cs:List Value) (y:DataW H × List MemPlace),DataW.trod enc Tryz.prog W 0 (fun _=>true) true n e cs=some y->(∀ m ∈ y.1.weights Tryz.prog e,m<=reachBytes)->∃ x,K.E (·<W.heap.size) W cs x/\Q x)
  {n:Nat} {v:Value} {y:DataW H × List MemPlace} (h:DataW.trod enc Tryz.prog W 0 (fun _=>true) true n tS [v]=some y) (hs:∀ m ∈ y.1.weights Tryz.prog tS,m<=reachBytes) :
  ∃ (l:List α) (p:Option Addr) (c:Nat),v=.slice p l.length c/\SlG K (·<W.heap.size) W v l/\(∀ x ∈ l,Q x)/\l.length*Tryz.prog.bytesOf e<=140737488351232:=by
 rcases Deep.open_slice ht h with ⟨hcs,_⟩ | ⟨a,len,cap,m,n',D,Pl,hcs,_,hl,hm,hmm,hx,hV⟩
 ·simp at hcs
  subst hcs
  exact ⟨[],none,0,rfl,SlG.nil,by simp,by simp⟩
 ·simp at hcs
  subst hcs
  simp only [if_true] at hmm
  obtain rfl:cap=m:=hmm.symm
  subst hx
  have hrb:cap*Tryz.prog.bytesOf e<=140737488351232:=by
   have:=hs ((((List.range len).map D).length+((List.range (cap - len)).map fun j=>D (len+j)).length)*Tryz.prog.bytesOf e) (by simp [DataW.weights,ht])
   simp only [List.length_map,List.length_range,reachBytes] at this
   have h3:len+(cap - len)=cap:=by omega
   rw [h3] at this
   exact this
  have hr:cap<=140737488351232:=by
   have h2:cap*1<=cap*Tryz.prog.bytesOf e:=Nat.mul_le_mul_left _ hb
   omega
  have hrow:∀ i,i<len->∃ f:List Value × α,W.cells? 0 (a.add (i*K.n)) K.n=some f.1/\K.E (·<W.heap.size) W f.1 f.2/\Q f.2:=fun i hi=>by
   obtain ⟨cs',h1,h2⟩:=hV i (by omega)
   rw [hc] at h1
   obtain ⟨x,h3,h4⟩:=hel n' cs' _ h2 (fun k hk=>hs k (by
    simp only [DataW.weights,ht,List.mem_cons,List.mem_append]
    exact .inr (.inl (weightsAll_memG (List.mem_map.2 ⟨i,List.mem_range.2 hi,rfl⟩) k hk))))
   exact ⟨(cs',x),h1,h3,h4⟩
  by_cases h0:len=0
  ·subst h0
   exact ⟨[],some a,cap,rfl,⟨[],Each.nil,some a,cap,rfl,Nat.zero_le _,hm,Nat.zero_le _,.inl rfl⟩,by simp,by simp⟩
  have hne:0<len:=by omega
  let f:Nat->List Value × α:=fun i=>if h:i<len then (hrow i h).choose else (hrow 0 hne).choose
  have hf:∀ i,i<len->W.cells? 0 (a.add (i*K.n)) K.n=some (f i).1/\K.E (·<W.heap.size) W (f i).1 (f i).2/\Q (f i).2:=fun i hi=>by
   show W.cells? 0 (a.add (i*K.n)) K.n=some (dite _ _ _:List Value × α).1/\_
   simp only [f,dif_pos hi]
   exact (hrow i hi).choose_spec
  clear_value f
  obtain ⟨b,off,spot⟩:=a
  have hspot:spot=none:=by
   have h1:=(hf 0 hne).1
   obtain ⟨_,h2,h3⟩:=World.cells?_some h1
   have h4:=h3 0 K.pos
   rw [List.getElem?_eq_getElem (by rw [h2];exact K.pos)] at h4
   simpa [Addr.add] using World.cell?_spot h4
  subst hspot
  have hE:Each K (·<W.heap.size) W ((List.range len).map fun i=>(f i).1) ((List.range len).map fun i=>(f i).2):=⟨by simp,fun i hi hi'=>by
   simp only [List.getElem_map,List.getElem_range]
   exact (hf i (by simpa using hi)).2.1⟩
  refine ⟨(List.range len).map fun i=>(f i).2,some ⟨b,off,none⟩,cap,by simp,⟨(List.range len).map fun i=>(f i).1,hE,some ⟨b,off,none⟩,cap,by simp,by simpa using hl,hm,by simp;omega,.inr ⟨b,off,rfl,?_,fun j hj=>?_⟩⟩,fun x hx=>?_,?_⟩
  ·obtain ⟨h2,h3⟩:=cells_atG (hf 0 hne).1
   have h4:=h3 0 K.pos
   rw [List.getElem?_eq_getElem (by rw [h2];exact K.pos)] at h4
   exact cell_lt h4
  ·have hn:=hE.lens
   have hl2:=hn.len
   rw [List.length_map,List.length_range] at hl2
   have hjn:j<len*K.n:=by rw [<- hl2];exact hj
   have hk:j / K.n<len:=Nat.div_lt_of_lt_mul (by rw [Nat.mul_comm];exact hjn)
   have hi:j % K.n<K.n:=Nat.mod_lt _ K.pos
   have hjj:j / K.n*K.n+j % K.n=j:=by rw [Nat.mul_comm];exact Nat.div_add_mod j K.n
   have h5:=hn.at (j / K.n) (j % K.n) (by simpa using hk) hi
   rw [hjj,List.getElem?_eq_getElem hj] at h5
   simp only [List.getElem_map,List.getElem_range] at h5
   obtain ⟨_,h3⟩:=cells_atG (hf (j / K.n) hk).1
   have h6:=h3 (j % K.n) hi
   rw [Nat.add_assoc,hjj] at h6
   rw [h6,<- h5]
  ·obtain ⟨i,hi,rfl⟩:=List.mem_map.1 hx
   exact (hf i (List.mem_range.1 hi)).2.2
  ·rw [List.length_map,List.length_range];exact Nat.le_trans (Nat.mul_le_mul_right _ hl) hrb
def QS (s:Bs):Prop:=s.length<=140737488355328
def QA (a:Ag):Prop:=a.nm.length<=140737488355328/\a.num<18446744073709551616
def QR (a:Ar):Prop:=a.nm.length<=140737488355328 /\ -9223372036854775808<=a.size/\a.size<=9223372036854775807
def QI (x:In):Prop:=(x.kind<=255/\x.op<=255)/\x.dst.length<=140737488355328/\x.nm.length<=140737488355328/\(∀ a ∈ x.args,QA a)/\x.args.length<=5864062014805/\(-9223372036854775808<=x.pos.1/\x.pos.1<=9223372036854775807) /\ -9223372036854775808<=x.pos.2/\x.pos.2<=9223372036854775807
def QF (f:Fu):Prop:=f.nm.length<=140737488355328/\(∀ s ∈ f.params,QS s)/\(∀ x ∈ f.code,QI x)/\(-9223372036854775808<=f.pos.1/\f.pos.1<=9223372036854775807) /\ -9223372036854775808<=f.pos.2/\f.pos.2<=9223372036854775807
def QP (p:Pg):Prop:=(-9223372036854775808<=p.width/\p.width<=9223372036854775807)/\(∀ s ∈ p.chans,QS s)/\(∀ a ∈ p.arrays,QR a)/\(∀ f ∈ p.funcs,QF f)/\∀ x ∈ p.main,QI x
theorem str_valG {n:Nat} {c:Value} {y:DataW H × List MemPlace} (h:DataW.trod enc Tryz.prog W 0 (fun _=>true) true n 9 [c]=some y) (hs:∀ m ∈ y.1.weights Tryz.prog 9,m<=reachBytes):∃ s:Bs,c=.string ⟨s.toArray⟩/\s.length<=140737488355328:=by
 obtain ⟨s,e,hy,_⟩:=DataW.trod_string Tryz.underlying9 h
 simp only [List.cons.injEq,and_true] at e
 subst e
 refine ⟨s.data.toList,by rw [Array.toArray_toList],?_⟩
 have:=hs s.data.toList.length (by rw [hy];simp [DataW.weights])
 unfold reachBytes at this
 omega
theorem str_el (n:Nat) (cs:List Value) (y:DataW H × List MemPlace) (h:DataW.trod enc Tryz.prog W 0 (fun _=>true) true n 9 cs=some y) (hs:∀ m ∈ y.1.weights Tryz.prog 9,m<=reachBytes):∃ x,kStr.E (·<W.heap.size) W cs x/\QS x:=by
 obtain ⟨s,e,_⟩:=DataW.trod_string Tryz.underlying9 h
 subst e
 obtain ⟨t,e,ht⟩:=str_valG h hs
 exact ⟨t,by rw [e];rfl,ht⟩
theorem ag_el (n:Nat) (cs:List Value) (y:DataW H × List MemPlace) (h:DataW.trod enc Tryz.prog W 0 (fun _=>true) true n 43 cs=some y) (hs:∀ m ∈ y.1.weights Tryz.prog 43,m<=reachBytes):∃ x,kAg.E (·<W.heap.size) W cs x/\QA x:=by
 obtain ⟨xs,_,_,_,hl,_⟩:=DataW.trod_struct Tryz.underlying43 h
 obtain ⟨c0,c1,rfl⟩:=list2G (hl.trans cG_ag)
 obtain ⟨y0,y1,n1,hx,_,h0,h1⟩:=trod_struct2 Tryz.underlying43 h
 subst hx
 simp only [cG_s,cG_u64,List.drop_zero,List.drop_succ_cons,List.take_succ_cons,List.take_zero] at h0 h1
 obtain ⟨s,rfl,hsl⟩:=str_valG h0 (fun m hm=>hs m (by simp [DataW.weights,Tryz.underlying43,DataW.weightsEach,hm]))
 obtain ⟨i,e,_,f⟩:=DataW.trod_int Tryz.underlying35 h1
 simp only [List.cons.injEq,and_true] at e
 subst e
 have g:=wf_u64 f
 have q:((i.toNat:Nat):Int)=i:=Int.toNat_of_nonneg g.1
 exact ⟨⟨s,i.toNat⟩,by show [_,_]=[_,_];dsimp only;rw [q],hsl,by dsimp only;omega⟩
theorem ar_el (n:Nat) (cs:List Value) (y:DataW H × List MemPlace) (h:DataW.trod enc Tryz.prog W 0 (fun _=>true) true n 87 cs=some y) (hs:∀ m ∈ y.1.weights Tryz.prog 87,m<=reachBytes):∃ x,kAr.E (·<W.heap.size) W cs x/\QR x:=by
 obtain ⟨xs,_,_,_,hl,_⟩:=DataW.trod_struct Tryz.underlying87 h
 obtain ⟨c0,c1,rfl⟩:=list2G (hl.trans cG_ar)
 obtain ⟨y0,y1,n1,hx,_,h0,h1⟩:=trod_struct2 Tryz.underlying87 h
 subst hx
 simp only [cG_s,cG_i,List.drop_zero,List.drop_succ_cons,List.take_succ_cons,List.take_zero] at h0 h1
 obtain ⟨s,rfl,hsl⟩:=str_valG h0 (fun m hm=>hs m (by simp [DataW.weights,Tryz.underlying87,DataW.weightsEach,hm]))
 obtain ⟨i,e,_,f⟩:=DataW.trod_int Tryz.underlying3 h1
 simp only [List.cons.injEq,and_true] at e
 subst e
 exact ⟨⟨s,i⟩,rfl,hsl,wf_bounds f⟩
theorem in_el (n:Nat) (cs:List Value) (y:DataW H × List MemPlace) (h:DataW.trod enc Tryz.prog W 0 (fun _=>true) true n 41 cs=some y) (hs:∀ m ∈ y.1.weights Tryz.prog 41,m<=reachBytes):∃ x,kIn.E (·<W.heap.size) W cs x/\QI x:=by
 obtain ⟨y0,y1,y2,y3,y4,y5,n1,hx,hl,h0,h1,h2,h3,h4,h5⟩:=trod_struct6G Tryz.underlying41 h
 obtain ⟨c0,c1,c2,c3,c4,c5,c6,rfl⟩:=list7G (hl.trans cG_in)
 obtain ⟨d,ps⟩:=y
 simp only at hx
 subst hx
 simp only [cG_s,cG_u8,cG_as,cG_pos,List.drop_zero,List.drop_succ_cons,List.take_succ_cons,List.take_zero] at h0 h1 h2 h3 h4 h5
 obtain ⟨z0,z1,n3,hx3,_,l0,l1⟩:=trod_struct2 Tryz.underlying39 h5
 subst hx3
 simp only [cG_i,List.drop_zero,List.drop_succ_cons,List.take_succ_cons,List.take_zero] at l0 l1
 obtain ⟨i0,e0,_,f0⟩:=DataW.trod_int Tryz.underlying5 h0
 obtain ⟨i1,e1,_,f1⟩:=DataW.trod_int Tryz.underlying5 h1
 obtain ⟨s2,rfl,b2⟩:=str_valG h2 (fun m hm=>hs m (by simp [DataW.weights,Tryz.underlying41,DataW.weightsEach,hm]))
 obtain ⟨s3,rfl,b3⟩:=str_valG h3 (fun m hm=>hs m (by simp [DataW.weights,Tryz.underlying41,DataW.weightsEach,hm]))
 obtain ⟨i5,e5,_,f5⟩:=DataW.trod_int Tryz.underlying3 l0
 obtain ⟨i6,e6,_,f6⟩:=DataW.trod_int Tryz.underlying3 l1
 obtain ⟨l4,p4,k4,_,b4,q4,z4⟩:=slg_open (K:=kAg) (Q:=QA) Tryz.underlying37 cG_ag bG_ag ag_el h4 (fun m hm=>hs m (by simp [DataW.weights,Tryz.underlying41,DataW.weightsEach,hm]))
 simp only [List.cons.injEq,and_true] at e0 e1 e5 e6
 subst e0 e1 e5 e6
 have g0:=wf_u8 f0
 have g1:=wf_u8 f1
 have q0:((i0.toNat:Nat):Int)=i0:=Int.toNat_of_nonneg g0.1
 have q1:((i1.toNat:Nat):Int)=i1:=Int.toNat_of_nonneg g1.1
 refine ⟨⟨i0.toNat,i1.toNat,s2,s3,l4,(i5,i6)⟩,⟨c4,?_,b4⟩,⟨⟨by dsimp only;omega,by dsimp only;omega⟩,b2,b3,q4,(by rw [by24_ag] at z4;dsimp only;omega),wf_bounds f5,wf_bounds f6⟩⟩
 dsimp only
 rw [q0,q1]
theorem fu_el (n:Nat) (cs:List Value) (y:DataW H × List MemPlace) (h:DataW.trod enc Tryz.prog W 0 (fun _=>true) true n 74 cs=some y) (hs:∀ m ∈ y.1.weights Tryz.prog 74,m<=reachBytes):∃ x,kFu.E (·<W.heap.size) W cs x/\QF x:=by
 obtain ⟨xs,_,_,_,hl,_⟩:=DataW.trod_struct Tryz.underlying74 h
 obtain ⟨c0,c1,c2,c3,c4,rfl⟩:=list5G (hl.trans cG_fu)
 obtain ⟨y0,y1,y2,y3,n1,hx,_,h0,h1,h2,h3⟩:=trod_struct4 Tryz.underlying74 h
 subst hx
 simp only [cG_s,cG_ss,cG_is,cG_pos,List.drop_zero,List.drop_succ_cons,List.take_succ_cons,List.take_zero] at h0 h1 h2 h3
 obtain ⟨z0,z1,n3,hx3,_,l0,l1⟩:=trod_struct2 Tryz.underlying39 h3
 subst hx3
 simp only [cG_i,List.drop_zero,List.drop_succ_cons,List.take_succ_cons,List.take_zero] at l0 l1
 obtain ⟨s0,rfl,b0⟩:=str_valG h0 (fun m hm=>hs m (by simp [DataW.weights,Tryz.underlying74,DataW.weightsEach,hm]))
 obtain ⟨i5,e5,_,f5⟩:=DataW.trod_int Tryz.underlying3 l0
 obtain ⟨i6,e6,_,f6⟩:=DataW.trod_int Tryz.underlying3 l1
 obtain ⟨l1',p1,k1,_,b1,q1,_⟩:=slg_open (K:=kStr) (Q:=QS) Tryz.underlying22 cG_s bG_s str_el h1 (fun m hm=>hs m (by simp [DataW.weights,Tryz.underlying74,DataW.weightsEach,hm]))
 obtain ⟨l2,p2,k2,_,b2,q2,_⟩:=slg_open (K:=kIn) (Q:=QI) Tryz.underlying25 cG_in bG_in in_el h2 (fun m hm=>hs m (by simp [DataW.weights,Tryz.underlying74,DataW.weightsEach,hm]))
 simp only [List.cons.injEq,and_true] at e5 e6
 subst e5 e6
 exact ⟨⟨s0,l1',l2,(i5,i6)⟩,⟨c1,c2,rfl,b1,b2⟩,b0,q1,q2,wf_bounds f5,wf_bounds f6⟩
theorem pg_open {r:Reach} {b0:Nat} {v:Value} {d:DataW H} {p:List MemPlace} (hv:Value.okWide Tryz.prog W r b0 27 v) (h:DataW.Trod enc Tryz.prog W 0 (fun _=>true) true 27 v d p) (hs:∀ m ∈ d.weights Tryz.prog 27,m<=reachBytes) :
  ∃ (q:Pg) (a b c e:Value),v=.agg #[.int .i64 q.width,a,b,c,e]/\PgV (·<W.heap.size) W a b c e q/\QP q:=by
 obtain ⟨cs,rfl,hsz⟩:=okWide_struct Tryz.underlying27 hv
 obtain ⟨fuel,hf⟩:=h
 obtain ⟨y0,y1,y2,y3,y4,n1,hx,hl,h0,h1,h2,h3,h4⟩:=trod_struct5G Tryz.underlying27 hf
 simp only at hx
 subst hx
 obtain ⟨c0,c1,c2,c3,c4,hcs⟩:=list5G (hl.trans cG_pg)
 have hcs:cs.toList=[c0,c1,c2,c3,c4]:=hcs
 simp only [Value.cells,hcs,cG_i,cG_ss,cG_ars,cG_fs,cG_is,List.drop_zero,List.drop_succ_cons,List.take_succ_cons,List.take_zero] at h0 h1 h2 h3 h4
 obtain ⟨i0,e0,_,f0⟩:=DataW.trod_int Tryz.underlying3 h0
 obtain ⟨l1,p1,k1,_,b1,q1,_⟩:=slg_open (K:=kStr) (Q:=QS) Tryz.underlying22 cG_s bG_s str_el h1 (fun m hm=>hs m (by simp [DataW.weights,Tryz.underlying27,DataW.weightsEach,hm]))
 obtain ⟨l2,p2,k2,_,b2,q2,_⟩:=slg_open (K:=kAr) (Q:=QR) Tryz.underlying23 cG_ar bG_ar ar_el h2 (fun m hm=>hs m (by simp [DataW.weights,Tryz.underlying27,DataW.weightsEach,hm]))
 obtain ⟨l3,p3,k3,_,b3,q3,_⟩:=slg_open (K:=kFu) (Q:=QF) Tryz.underlying24 cG_fu bG_fu fu_el h3 (fun m hm=>hs m (by simp [DataW.weights,Tryz.underlying27,DataW.weightsEach,hm]))
 obtain ⟨l4,p4,k4,_,b4,q4,_⟩:=slg_open (K:=kIn) (Q:=QI) Tryz.underlying25 cG_in bG_in in_el h4 (fun m hm=>hs m (by simp [DataW.weights,Tryz.underlying27,DataW.weightsEach,hm]))
 simp only [List.cons.injEq,and_true] at e0
 subst e0
 refine ⟨⟨i0,l1,l2,l3,l4⟩,c1,c2,c3,c4,?_,⟨b1,b2,b3,b4⟩,wf_bounds f0,q1,q2,q3,q4⟩
 rw [<- Array.toArray_toList (xs:=cs),hcs]
end
end Go.Proofs.YtoofbgoeipijcaaGreatDoor
