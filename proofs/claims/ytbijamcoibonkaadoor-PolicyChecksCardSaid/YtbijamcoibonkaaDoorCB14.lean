/-
 Programs in memory: lists of records of any kind, read and gathered.
-/
import Derived.Test.YtbijamcoibonkaaDoorCB7
import Derived.Test.YtbijamcoibonkaaDoorCB13
import Derived.Test.YtbijamcoibonkaaDoorCSShelf
import Derived.Lib.LaidTab
import Derived.MapKept
import Derived.ChangeMaps
import Derived.Maps.OwnSet
import Derived.Test.YtbijamcoibonkaaDoorCB5
namespace Go.Proofs.YtbijamcoibonkaaDoor
set_option linter.unusedSimpArgs false
set_option linter.unusedVariables false
open Go.RowKit Go.Shelf
structure EK (α:Type) where
 n:Nat
 pos:0<n
 E:(Nat→Prop)→World→List Value→α→Prop
 len:∀ {R:Nat→Prop} {w:World} {cs:List Value} {x:α},E R w cs x→cs.length=n
 one:∀ {R:Nat→Prop} {w:World} {cs:List Value} {x:α},E R w cs x→∀ u ∈ cs,u.oneCell'=true
 keep:∀ {R R':Nat→Prop} {w w':World} {cs:List Value} {x:α},E R w cs x→(∀ k,R k→R' k∧w'.heap[k]?=w.heap[k]?)→E R' w' cs x
def Each {α:Type} (K:EK α) (R:Nat→Prop) (w:World) (css:List (List Value)) (l:List α):Prop :=
 css.length=l.length∧∀ i (h:i<l.length) (h':i<css.length),K.E R w css[i] l[i]
theorem Each.nil {α:Type} {K:EK α} {R:Nat→Prop} {w:World}:Each K R w [] []:=⟨rfl,fun i h=>absurd h (by simp)⟩
theorem Each.keep {α:Type} {K:EK α} {R R':Nat→Prop} {w w':World} {css:List (List Value)} {l:List α} (h:Each K R w css l) (hf:∀ k,R k→R' k∧w'.heap[k]?=w.heap[k]?):Each K R' w' css l :=
 ⟨h.1,fun i hi hi'=>K.keep (h.2 i hi hi') hf⟩
theorem Each.snoc {α:Type} {K:EK α} {R:Nat→Prop} {w:World} {css:List (List Value)} {l:List α} {cs:List Value} {x:α} (h:Each K R w css l) (hx:K.E R w cs x):Each K R w (css++[cs]) (l++[x]):=by
 refine ⟨by simp [h.1],fun i hi hi'=>?_⟩
 by_cases hlt:i<l.length
 ·rw [List.getElem_append_left (by rw [h.1];exact hlt),List.getElem_append_left hlt];exact h.2 i hlt (by rw [h.1];exact hlt)
 ·have he:i=l.length:=by simp at hi;omega
  subst he
  rw [List.getElem_append_right (by rw [h.1];omega),List.getElem_append_right (by omega)]
  simp only [h.1,Nat.sub_self,List.getElem_cons_zero]
  exact hx
theorem Each.set {α:Type} {K:EK α} {R:Nat→Prop} {w:World} {css:List (List Value)} {l:List α} {cs:List Value} {x:α} (h:Each K R w css l) (k:Nat) (hx:K.E R w cs x):Each K R w (css.set k cs) (l.set k x):=by
 refine ⟨by simp [h.1],fun i hi hi'=>?_⟩
 rw [List.getElem_set,List.getElem_set]
 split
 ·exact hx
 ·exact h.2 i (by simpa using hi) (by simpa using hi')
theorem Each.take {α:Type} {K:EK α} {R:Nat→Prop} {w:World} {css:List (List Value)} {l:List α} (h:Each K R w css l) (k:Nat):Each K R w (css.take k) (l.take k):=by
 refine ⟨by simp [h.1],fun i hi hi'=>?_⟩
 rw [List.getElem_take,List.getElem_take]
 exact h.2 i (by simp at hi;omega) (by simp at hi';omega)
def LenN (n:Nat) (css:List (List Value)):Prop:=∀ c ∈ css,c.length=n
theorem Each.lens {α:Type} {K:EK α} {R:Nat→Prop} {w:World} {css:List (List Value)} {l:List α} (h:Each K R w css l):LenN K.n css:=by
 intro c hc
 obtain ⟨i,hi,rfl⟩:=List.mem_iff_getElem.1 hc
 exact K.len (h.2 i (by rw [← h.1];exact hi) hi)
theorem LenN.len {n:Nat}:∀ {css:List (List Value)},LenN n css→css.flatten.length=css.length*n
 | [],_=>by simp
 | c :: r,h=>by
  rw [List.flatten_cons,List.length_append,LenN.len (fun d hd=>h d (List.mem_cons_of_mem _ hd)),h c (List.mem_cons_self ..),List.length_cons,Nat.add_mul,Nat.one_mul,Nat.add_comm]
theorem LenN.at {n:Nat}:∀ {css:List (List Value)},LenN n css→∀ k i (hk:k<css.length) (hi:i<n),css.flatten[k*n+i]?=css[k][i]?
 | [],_,k,i,hk,_=>absurd hk (by simp)
 | c :: r,h,0,i,_,hi=>by
  rw [List.flatten_cons,List.getElem?_append_left (by rw [h c (List.mem_cons_self ..)];omega)];simp
 | c :: r,h,k+1,i,hk,hi=>by
  have hc:=h c (List.mem_cons_self ..)
  have:=LenN.at (fun d hd=>h d (List.mem_cons_of_mem _ hd)) k i (by simpa using hk) hi
  rw [List.flatten_cons,List.getElem?_append_right (by rw [hc,Nat.add_mul];omega),hc,show (k+1)*n+i - n=k*n+i by rw [Nat.add_mul];omega,this]
  simp
theorem LenN.take {n:Nat}:∀ {css:List (List Value)},LenN n css→∀ k,(css.take k).flatten=css.flatten.take (k*n)
 | [],_,k=>by simp
 | c :: r,h,0=>by simp
 | c :: r,h,k+1=>by
  have hc:=h c (List.mem_cons_self ..)
  have:=LenN.take (fun d hd=>h d (List.mem_cons_of_mem _ hd)) k
  have e:c.take ((k+1)*n)=c:=List.take_of_length_le (by rw [hc,Nat.add_mul];omega)
  rw [List.take_succ_cons,List.flatten_cons,List.flatten_cons,this,List.take_append,hc,show (k+1)*n - n=k*n by rw [Nat.add_mul];omega,e]
theorem LenN.set {n:Nat}:∀ {css:List (List Value)},LenN n css→∀ k i (hk:k<css.length) (hi:i<n) (u:Value),(css.set k (css[k].set i u)).flatten=css.flatten.set (k*n+i) u
 | [],_,k,i,hk,_,_=>absurd hk (by simp)
 | c :: r,h,0,i,_,hi,u=>by
  have hc:=h c (List.mem_cons_self ..)
  simp only [List.set_cons_zero,List.flatten_cons,List.getElem_cons_zero,Nat.zero_mul,Nat.zero_add]
  rw [List.set_append_left _ _ (by omega)]
 | c :: r,h,k+1,i,hk,hi,u=>by
  have hc:=h c (List.mem_cons_self ..)
  have:=LenN.set (fun d hd=>h d (List.mem_cons_of_mem _ hd)) k i (by simpa using hk) hi u
  simp only [List.set_cons_succ,List.flatten_cons,List.getElem_cons_succ]
  rw [this,List.set_append_right _ _ (by rw [hc,Nat.add_mul];omega),hc,show (k+1)*n+i - n=k*n+i by rw [Nat.add_mul];omega]
def SlG {α:Type} (K:EK α) (R:Nat→Prop) (w:World) (v:Value) (l:List α):Prop :=
 ∃ css,Each K R w css l∧∃ p c,v = .slice p l.length c∧l.length≤c∧c≤maxLen∧l.length≤140737488355328∧RowR R w p css.flatten
theorem SlG.keep {α:Type} {K:EK α} {R R':Nat→Prop} {w w':World} {v:Value} {l:List α} (h:SlG K R w v l) (hf:∀ k,R k→R' k∧w'.heap[k]?=w.heap[k]?):SlG K R' w' v l :=
 let ⟨css,h1,p,c,e,h2,h3,h4,h5⟩:=h;⟨css,h1.keep hf,p,c,e,h2,h3,h4,h5.keep hf⟩
theorem SlG.weaken {α:Type} {K:EK α} {R R':Nat→Prop} {w:World} {v:Value} {l:List α} (h:SlG K R w v l) (hf:∀ k,R k→R' k):SlG K R' w v l:=h.keep fun k hk=>⟨hf k hk,rfl⟩
theorem SlG.nil {α:Type} {K:EK α} {R:Nat→Prop} {w:World}:SlG K R w (.slice none 0 0) []:=⟨[],Each.nil,none,0,rfl,Nat.le_refl _,Nat.zero_le _,Nat.zero_le _,.inl rfl⟩
theorem SlG.below {α:Type} {K:EK α} {w w':World} {v:Value} {l:List α} (h:SlG K (·<w.heap.size) w v l) (hb:Below w.heap.size w w'):SlG K (·<w'.heap.size) w' v l :=
 h.keep fun k hk=>⟨Nat.lt_of_lt_of_le hk hb.size,hb.block k hk⟩
theorem SlG.slc {α:Type} {K:EK α} {R:Nat→Prop} {w:World} {v:Value} {l:List α} (h:SlG K R w v l):∃ p c,v = .slice p l.length c:=let ⟨_,_,p,c,e,_⟩:=h;⟨p,c,e⟩
theorem SlG.len {α:Type} {K:EK α} {R:Nat→Prop} {w:World} {v:Value} {l:List α} (h:SlG K R w v l):l.length≤140737488355328:=let ⟨_,_,_,_,_,_,_,h,_⟩:=h;h
theorem SlG.one {α:Type} {K:EK α} {R:Nat→Prop} {w:World} {v:Value} {l:List α} (h:SlG K R w v l):v.oneCell'=true:=by obtain ⟨p,c,rfl⟩:=h.slc;rfl
theorem SlG.at {α:Type} {K:EK α} {R:Nat→Prop} {w:World} {p:Option Addr} {n c:Nat} {l:List α} (h:SlG K R w (.slice p n c) l) (hl:0<l.length) :
  ∃ b off,p=some ⟨b,off,none⟩∧R b∧∀ k (hk:k<l.length),∃ cs,K.E R w cs l[k]∧∀ i u,cs[i]?=some u→w.cell? ⟨b,off+k*K.n+i,none⟩=some u:=by
 obtain ⟨css,h1,p',c',e,h2,h3,h4,h5⟩:=h
 cases e
 have hn:=h1.lens
 obtain ⟨b,off,e,hR,hc⟩:=h5.at 0 (by rw [hn.len,h1.1];exact Nat.mul_pos hl K.pos)
 refine ⟨b,off,e,hR,fun k hk=>⟨css[k]'(by rw [h1.1];exact hk),h1.2 k hk _,fun i u hu=>?_⟩⟩
 have hk':k<css.length:=by rw [h1.1];exact hk
 have hi:i<K.n:=by
  have:=(List.getElem?_eq_some_iff.1 hu).1
  rwa [K.len (h1.2 k hk hk')] at this
 have hat:=hn.at k i hk' hi
 rw [hu] at hat
 obtain ⟨hlt,hv⟩:=List.getElem?_eq_some_iff.1 hat
 rw [Nat.add_assoc,hc (k*K.n+i) hlt,hv]
theorem SlG.cut {α:Type} {K:EK α} {R:Nat→Prop} {w:World} {p:Option Addr} {n c:Nat} {l:List α} (h:SlG K R w (.slice p n c) l) (k:Nat) (hk:k≤l.length):SlG K R w (.slice p k c) (l.take k):=by
 obtain ⟨css,h1,p',c',e,h2,h3,h4,h5⟩:=h
 cases e
 have hlen:(l.take k).length=k:=by rw [List.length_take];omega
 refine ⟨css.take k,h1.take k,p,c,by rw [hlen],by omega,h3,by omega,?_⟩
 rw [h1.lens.take]
 rcases h5 with h5 | ⟨b,off,e,hR,hc⟩
 ·left;rw [h5];simp
 ·refine .inr ⟨b,off,e,hR,fun j hj=>?_⟩
  have hj':j<css.flatten.length:=by rw [List.length_take] at hj;omega
  rw [hc j hj',List.getElem_take]
structure GA {α:Type} (K:EK α) (B e:Nat) (w:World) (v:Value) (l:List α):Prop where
 row:∃ css,Each K (fun k=>k<w.heap.size∧v.ownBlock ≠ some k) w css l∧w.ownsRow B e K.n v l.length css.flatten
theorem GA.nil {α:Type} (K:EK α) (B e:Nat) (w:World):GA K B e w (.slice none 0 0) []:=⟨⟨[],Each.nil,World.ownsRow_nil _ _ _ _⟩⟩
theorem GA.slc {α:Type} {K:EK α} {B e:Nat} {w:World} {v:Value} {l:List α} (h:GA K B e w v l):∃ p c,v = .slice p l.length c:=let ⟨_,_,h⟩:=h.row;own_sliceG h
theorem GA.lt {α:Type} {K:EK α} {B e:Nat} {w:World} {v:Value} {l:List α} (h:GA K B e w v l):∀ k,v.ownBlock=some k→B≤k∧k<w.heap.size:=let ⟨_,_,h⟩:=h.row;h.lt
theorem GA.keep {α:Type} {K:EK α} {B e:Nat} {w w':World} {v:Value} {l:List α} (h:GA K B e w v l) (hb:Below w.heap.size w w'):GA K B e w' v l:=by
 obtain ⟨css,h1,h2⟩:=h.row
 exact ⟨⟨css,h1.keep fun k hk=>⟨⟨Nat.lt_of_lt_of_le hk.1 hb.size,hk.2⟩,hb.block k hk.1⟩,owns_keepG h2 fun j hj=>hb.block j (h2.lt j hj).2⟩⟩
theorem GA.push {α:Type} {K:EK α} {B e:Nat} {w w':World} {v v':Value} {l:List α} {x:α} {css:List (List Value)} {cs:List Value} {o:Obj} (h:Each K (fun k=>k<w.heap.size∧v.ownBlock ≠ some k) w css l) (hl:∀ k,v.ownBlock=some k→k<w.heap.size)
  (hx:K.E (fun k=>k<w.heap.size∧v.ownBlock ≠ some k) w cs x) (hg:(w.alloc o).grownBy w' v.ownBlock) (ho:w'.ownsRow B e K.n v' (l.length+1) (css.flatten++cs)) (hv:v'.ownBlock=v.ownBlock∨v'.ownBlock=some (w.alloc o).heap.size):GA K B e w' v' (l++[x]):=by
 have hga:=(World.grownBy_alloc w o v.ownBlock).trans hg
 have hn:∀ k,(k<w.heap.size∧v.ownBlock ≠ some k)→(k<w'.heap.size∧v'.ownBlock ≠ some k)∧w'.heap[k]?=w.heap[k]?:=fun k hk=>by
  refine ⟨⟨Nat.lt_of_lt_of_le hk.1 hga.size,fun e=>?_⟩,hga.block k hk.1 fun e=>hk.2 e.symm⟩
  rcases hv with e' | e'
  ·exact hk.2 (e'.symm.trans e)
  ·rw [e'] at e;rw [World.size_alloc] at e;cases e;omega
 refine ⟨⟨css++[cs],(h.keep hn).snoc (K.keep hx hn),?_⟩⟩
 rw [List.length_append,List.flatten_append]
 simpa using ho
theorem GA.sl {α:Type} {K:EK α} {B e:Nat} {w:World} {v:Value} {l:List α} (h:GA K B e w v l) (hl:l.length≤140737488355328):SlG K (·<w.heap.size) w v l:=by
 obtain ⟨css,h1,h2⟩:=h.row
 refine ⟨css,h1.keep fun k hk=>⟨hk.1,rfl⟩,?_⟩
 obtain ⟨hlen,h3⟩:=h2
 rcases h3 with ⟨rfl,h0⟩ | ⟨g,cap,cur,rfl,hb,hg,hnc,hcm,hcs,ht⟩
 ·obtain rfl:=List.eq_nil_of_length_eq_zero h0
  have hc0:css=[]:=List.eq_nil_of_length_eq_zero (by rw [h1.1];rfl)
  subst hc0
  exact ⟨none,0,rfl,Nat.le_refl _,Nat.zero_le _,Nat.zero_le _,.inl rfl⟩
 ·refine ⟨_,cap,rfl,hnc,hcm,hl,.inr ⟨g,0,rfl,(Array.getElem?_eq_some_iff.1 hg).1,fun j hj=>?_⟩⟩
  rw [Nat.zero_add,cell_of_row w g j cur e (0,0) hg]
  have e1:(cur.toList.take (l.length*K.n))[j]?=some css.flatten[j]:=by rw [ht];exact List.getElem?_eq_getElem hj
  rw [List.getElem?_take] at e1
  split at e1
  ·simpa using e1
  ·cases e1
def kStr:EK Bs where
 n:=1
 pos:=by omega
 E _ _ cs x:=cs=[.string ⟨x.toArray⟩]
 len h:=by rw [h];rfl
 one h:=by subst h;intro u hu;rw [List.mem_singleton] at hu;subst hu;rfl
 keep h _:=h
def kAg:EK Ag where
 n:=2
 pos:=by omega
 E _ _ cs x:=cs=[.string ⟨x.nm.toArray⟩,.int .u64 (x.num:Int)]
 len h:=by rw [h];rfl
 one h:=by subst h;intro u hu;simp at hu;rcases hu with rfl | rfl <;> rfl
 keep h _:=h
def kAr:EK Ar where
 n:=2
 pos:=by omega
 E _ _ cs x:=cs=[.string ⟨x.nm.toArray⟩,.int .i64 x.size]
 len h:=by rw [h];rfl
 one h:=by subst h;intro u hu;simp at hu;rcases hu with rfl | rfl <;> rfl
 keep h _:=h
def kIn:EK In where
 n:=7
 pos:=by omega
 E R w cs x:=∃ av,cs=[.int .u8 (x.kind:Int),.int .u8 (x.op:Int),.string ⟨x.dst.toArray⟩,.string ⟨x.nm.toArray⟩,av,.int .i64 x.pos.1,.int .i64 x.pos.2]∧SlG kAg R w av x.args
 len h:=by obtain ⟨av,rfl,_⟩:=h;rfl
 one h:=by obtain ⟨av,rfl,hs⟩:=h;intro u hu;simp at hu;rcases hu with rfl | rfl | rfl | rfl | rfl | rfl | rfl <;> first | rfl | exact hs.one
 keep h hf:=let ⟨av,e,hs⟩:=h;⟨av,e,hs.keep hf⟩
def kFu:EK Fu where
 n:=5
 pos:=by omega
 E R w cs x:=∃ pv cv,cs=[.string ⟨x.nm.toArray⟩,pv,cv,.int .i64 x.pos.1,.int .i64 x.pos.2]∧SlG kStr R w pv x.params∧SlG kIn R w cv x.code
 len h:=by obtain ⟨pv,cv,rfl,_⟩:=h;rfl
 one h:=by obtain ⟨pv,cv,rfl,hp,hc⟩:=h;intro u hu;simp at hu;rcases hu with rfl | rfl | rfl | rfl | rfl <;> first | rfl | exact hp.one | exact hc.one
 keep h hf:=let ⟨pv,cv,e,hp,hc⟩:=h;⟨pv,cv,e,hp.keep hf,hc.keep hf⟩
def PgV (R:Nat→Prop) (w:World) (a b c d:Value) (p:Pg):Prop:=SlG kStr R w a p.chans∧SlG kAr R w b p.arrays∧SlG kFu R w c p.funcs∧SlG kIn R w d p.main
theorem PgV.keep {R R':Nat→Prop} {w w':World} {a b c d:Value} {p:Pg} (h:PgV R w a b c d p) (hf:∀ k,R k→R' k∧w'.heap[k]?=w.heap[k]?):PgV R' w' a b c d p:=⟨h.1.keep hf,h.2.1.keep hf,h.2.2.1.keep hf,h.2.2.2.keep hf⟩
theorem PgV.below {w w':World} {a b c d:Value} {p:Pg} (h:PgV (·<w.heap.size) w a b c d p) (hb:Below w.heap.size w w'):PgV (·<w'.heap.size) w' a b c d p:=h.keep fun k hk=>⟨Nat.lt_of_lt_of_le hk hb.size,hb.block k hk⟩
theorem str_at {R:Nat→Prop} {w:World} {p:Option Addr} {n c:Nat} {l:List Bs} (h:SlG kStr R w (.slice p n c) l) (hl:0<l.length) :
  ∃ b off,p=some ⟨b,off,none⟩∧R b∧∀ k (hk:k<l.length),w.cell? ⟨b,off+k,none⟩=some (.string ⟨l[k].toArray⟩):=by
 obtain ⟨b,off,e,hR,hc⟩:=h.at hl
 refine ⟨b,off,e,hR,fun k hk=>?_⟩
 obtain ⟨cs,rfl,h⟩:=hc k hk
 have:=h 0 _ rfl
 rwa [show kStr.n=1 from rfl,Nat.mul_one] at this
end Go.Proofs.YtbijamcoibonkaaDoor
namespace Go.Proofs.YtbijamcoibonkaaDoor
set_option linter.unusedSimpArgs false
set_option linter.unusedVariables false
open Go.RowKit Go.Shelf
attribute [local go_sem] Oper.semAt_some
theorem cell_size {w:World} {b i:Nat} {v:Value} (h:w.cell? ⟨b,i,none⟩=some v):b<w.heap.size:=by
 rcases Nat.lt_or_ge b w.heap.size with h1 | h1
 ·exact h1
 ·simp [World.cell?,Array.getElem?_eq_none h1] at h
theorem tab_below {B:Nat} {w w':World} (hb:Below B w w') (hB:w.heap.size≤B) {name:String} {k:IntKind} {zs:List Int} (h:Lib.TabIs Tryd.prog w name k zs):Lib.TabIs Tryd.prog w' name k zs:=by
 unfold Lib.TabIs World.var? at *
 cases hg:Tryd.prog.globalNamed name with
 | none=>simp [hg] at h
 | some g =>
  simp only [hg,Option.bind_some] at h ⊢
  have hlt:g<w.heap.size:=by
   rcases Nat.lt_or_ge g w.heap.size with h' | h'
   ·exact h'
   ·rw [Array.getElem?_eq_none h'] at h;simp at h
  rw [hb.block g (by omega)]
  exact h
theorem containsS_eq (l:List Bs) (s:Bs):Lib.containsS (l.map fun x=>(⟨x.toArray⟩:ByteArray)) ⟨s.toArray⟩=l.contains s:=by
 rw [Bool.eq_iff_iff,Lib.containsS_iff,List.contains_iff_mem,List.mem_map]
 constructor
 ·rintro ⟨x,hx,e⟩
  have:=congrArg (fun b:ByteArray=>b.data.toList) e
  exact (show x=s from this) ▸ hx
 ·exact fun h=>⟨s,h,rfl⟩
theorem contains_any (l:List Bs) (s:Bs) (v:Value) (R:Nat→Prop) (w:World) (h:SlG kStr R w v l):Calls Tryd.prog 20 #[v,.string ⟨s.toArray⟩] w fun e w'=>e = .returned (.bool (l.contains s))∧w'=w:=by
 obtain ⟨p,c,rfl⟩:=h.slc
 cases l with
 | nil=>exact (Tryd.slices_Contains_string_empty p c ⟨s.toArray⟩ w).mono fun e w' ⟨h1,h2⟩=>⟨h1,h2⟩
 | cons x r =>
  obtain ⟨b,off,rfl,hR,hc⟩:=str_at h (by simp)
  have hl:=h.len
  refine (Tryd.slices_Contains_string b off (x :: r).length c ((x :: r).map fun x=>(⟨x.toArray⟩:ByteArray)) ⟨s.toArray⟩ w (by simp) (by omega) fun j hj=>?_).mono fun e w' ⟨h1,h2⟩=>⟨?_,h2⟩
  ·have hj':j<(x :: r).length:=by simpa using hj
   rw [hc j hj',List.getD_eq_getElem?_getD,List.getElem?_map,List.getElem?_eq_getElem hj']
   rfl
  ·rw [h1,List.take_of_length_le (by simp),containsS_eq]
set_option maxRecDepth 100000 in
set_option maxHeartbeats 2000000 in
theorem name_long (s:Bs) (w:World) (hs:32<s.length):Calls Tryd.prog 19 #[.string ⟨s.toArray⟩] w fun e w'=>e = .returned (.bool (nameB s))∧Below w.heap.size w w':=by
 obtain ⟨sb,hsb⟩:∃ sb:ByteArray,(⟨s.toArray⟩:ByteArray)=sb:=⟨_,rfl⟩
 have hsz:sb.size=s.length:=by rw [← hsb];exact size_mk s
 have hnm:nameB s=false:=by unfold nameB;rw [decide_eq_false (by omega:¬ s.length≤32)];simp
 rw [hsb,hnm]
 have hem:=empty_of sb
 rw [show decide (sb.size=0)=false from decide_eq_false (by omega)] at hem
 have a0:decide (32<(sb.size:Int))=true:=by simp;omega
 clear hsb hnm hsz hs
 go_enter Tryd.func19,Tryd.ntmps19
 go_wp2
 go_ret
 exact ⟨rfl,Below.refl _ _⟩
theorem name_all (s:Bs) (w:World):Calls Tryd.prog 19 #[.string ⟨s.toArray⟩] w fun e w'=>e = .returned (.bool (nameB s))∧Below w.heap.size w w':=by
 by_cases h:32<s.length
 ·exact name_long s w h
 ·exact name_any s w (by omega)
end Go.Proofs.YtbijamcoibonkaaDoor
namespace Go.Proofs.YtbijamcoibonkaaDoor
set_option linter.unusedSimpArgs false
set_option linter.unusedVariables false
open Go.RowKit Go.Shelf
abbrev Ent:=Bs × Value
def EntR (l:List MapEntry) (d:List Ent):Prop:=l.map (fun x=>(x.key,x.val))=d.map fun p=>(Value.string ⟨p.1.toArray⟩,p.2)
def MapS (w:World) (r:Nat) (d:List Ent):Prop:=∃ es clk,w.heap[r]?=some (.map es clk)∧EntR es.toList d
theorem MapS.keep {w w':World} {r:Nat} {d:List Ent} (h:MapS w r d) (hk:w'.heap[r]?=w.heap[r]?):MapS w' r d:=let ⟨es,clk,h1,h2⟩:=h;⟨es,clk,hk.trans h1,h2⟩
theorem MapS.lt {w:World} {r:Nat} {d:List Ent} (h:MapS w r d):r<w.heap.size:=by
 obtain ⟨es,clk,h1,_⟩:=h
 exact (Array.getElem?_eq_some_iff.1 h1).1
theorem EntR.nil:EntR [] []:=rfl
theorem EntR.cons {x:MapEntry} {l:List MapEntry} {d:List Ent} (h:EntR (x :: l) d):∃ p d',d=p :: d'∧x.key = .string ⟨p.1.toArray⟩∧x.val=p.2∧EntR l d':=by
 unfold EntR at h
 cases d with
 | nil=>simp at h
 | cons p d' =>
  simp only [List.map_cons,List.cons.injEq,Prod.mk.injEq] at h
  exact ⟨p,d',rfl,h.1.1,h.1.2,h.2⟩
section
variable {P:Program} {w:World} {ops:Array Oper} {rest:List Oper} {o:Oper} {a:Act} {Q:Exit→Act→World→Prop}
end
def nmE (l:List Bs):List Ent:=l.map fun s=>(s,.bool true)
def NmS (w:World) (r:Nat) (l:List Bs):Prop:=MapS w r (nmE l)
theorem NmS.keep {w w':World} {r:Nat} {l:List Bs} (h:NmS w r l) (hk:w'.heap[r]?=w.heap[r]?):NmS w' r l:=MapS.keep h hk
theorem NmS.lt {w:World} {r:Nat} {l:List Bs} (h:NmS w r l):r<w.heap.size:=MapS.lt h
def ctE (d:List (Bs × Nat)):List Ent:=d.map fun p=>(p.1,.int .i64 (p.2:Int))
def CtS (w:World) (r:Nat) (d:List (Bs × Nat)):Prop:=MapS w r (ctE d)
theorem CtS.keep {w w':World} {r:Nat} {d:List (Bs × Nat)} (h:CtS w r d) (hk:w'.heap[r]?=w.heap[r]?):CtS w' r d:=MapS.keep h hk
theorem CtS.lt {w:World} {r:Nat} {d:List (Bs × Nat)} (h:CtS w r d):r<w.heap.size:=MapS.lt h
open Go.RowKit
theorem put_defers (a:Act) (d:Option Nat) (v:Value):(a.put d v).defers=a.defers:=by cases d <;> rfl
end Go.Proofs.YtbijamcoibonkaaDoor
namespace Go.Proofs.YtbijamcoibonkaaDoor
set_option linter.unusedSimpArgs false
set_option linter.unusedVariables false
open Go.RowKit Go.Shelf
attribute [local go_sem] Oper.semAt_some
abbrev posV (p:Int × Int):Value := .agg #[.int .i64 p.1,.int .i64 p.2]
structure But (F:Nat→Prop) (w w':World):Prop where
 os:w'.os=w.os
 tape:w'.tape=w.tape
 output:w'.output=w.output
 size:w.heap.size≤w'.heap.size
 block:∀ k,k<w.heap.size→¬ F k→w'.heap[k]?=w.heap[k]?
theorem But.refl (F:Nat→Prop) (w:World):But F w w:=⟨rfl,rfl,rfl,Nat.le_refl _,fun _ _ _=>rfl⟩
theorem But.of_below {w w':World} (F:Nat→Prop) (h:Below w.heap.size w w'):But F w w':=⟨h.os,h.tape,h.output,h.size,fun k hk _=>h.block k hk⟩
theorem But.trans {F:Nat→Prop} {a b c:World} (h:But F a b) (k:But F b c):But F a c :=
 ⟨k.os.trans h.os,k.tape.trans h.tape,k.output.trans h.output,Nat.le_trans h.size k.size,fun i hi hF=>(k.block i (Nat.lt_of_lt_of_le hi h.size) hF).trans (h.block i hi hF)⟩
theorem But.below {F:Nat→Prop} {w w':World} {B:Nat} (h:But F w w') (hB:B≤w.heap.size) (hF:∀ k,F k→B≤k):Below B w w' :=
 ⟨h.os,h.tape,h.output,h.size,fun k hk=>h.block k (by omega) fun hf=>by have:=hF k hf;omega⟩
theorem But.mono {F G:Nat→Prop} {w w':World} (h:But F w w') (hFG:∀ k,F k→G k):But G w w':=⟨h.os,h.tape,h.output,h.size,fun k hk hg=>h.block k hk fun hf=>hg (hFG k hf)⟩
theorem But.of_grown {w w':World} {r:Nat} (h:w.grownBy w' (some r)):But (fun k=>k=r) w w':=⟨h.os,h.tape,h.output,h.size,fun k hk hF=>h.block k hk fun e=>by cases e;exact hF rfl⟩
end Go.Proofs.YtbijamcoibonkaaDoor
