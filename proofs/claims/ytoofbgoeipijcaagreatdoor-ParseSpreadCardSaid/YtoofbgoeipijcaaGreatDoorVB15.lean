/-
 A part.
-/
import Derived.Test.YtoofbgoeipijcaaGreatDoorVB14
namespace Go.Proofs.YtoofbgoeipijcaaGreatDoor
set_option maxRecDepth 100000
set_option maxHeartbeats 4000000
set_option linter.all false
open Go.RowKit Go.Shelf
def GR {α:Type} (K:EK α) (R:Nat->Prop) (B e:Nat) (w:World) (v:Value) (l:List α):Prop :=
 ∃ css,Each K R w css l/\w.ownsRow B e K.n v l.length css.flatten
theorem GR.nil {α:Type} (K:EK α) (R:Nat->Prop) (B e:Nat) (w:World):GR K R B e w (.slice none 0 0) []:=⟨[],Each.nil,World.ownsRow_nil _ _ _ _⟩
theorem GR.slc {α:Type} {K:EK α} {R:Nat->Prop} {B e:Nat} {w:World} {v:Value} {l:List α} (h:GR K R B e w v l):∃ p c,v=.slice p l.length c:=let ⟨_,_,h⟩:=h;own_sliceG h
theorem GR.lt {α:Type} {K:EK α} {R:Nat->Prop} {B e:Nat} {w:World} {v:Value} {l:List α} (h:GR K R B e w v l):∀ k,v.ownBlock=some k->B<=k/\k<w.heap.size:=let ⟨_,_,h⟩:=h;h.lt
theorem GR.keep {α:Type} {K:EK α} {R R':Nat->Prop} {B e:Nat} {w w':World} {v:Value} {l:List α} (h:GR K R B e w v l) (hf:∀ k,R k->R' k/\w'.heap[k]?=w.heap[k]?) (ho:∀ j,v.ownBlock=some j->w'.heap[j]?=w.heap[j]?):GR K R' B e w' v l :=
 let ⟨css,h1,h2⟩:=h;⟨css,h1.keep hf,owns_keepG h2 ho⟩
theorem GR.ga {α:Type} {K:EK α} {R:Nat->Prop} {B e:Nat} {w:World} {v:Value} {l:List α} (h:GR K R B e w v l) (hR:∀ k,R k->k<w.heap.size/\v.ownBlock ≠ some k):GA K B e w v l :=
 let ⟨css,h1,h2⟩:=h;⟨⟨css,h1.keep fun k hk=>⟨hR k hk,rfl⟩,h2⟩⟩
theorem GR.sl {α:Type} {K:EK α} {R:Nat->Prop} {B e:Nat} {w:World} {v:Value} {l:List α} (h:GR K R B e w v l) (hl:l.length<=140737488355328):SlG K (fun k=>R k\/v.ownBlock=some k) w v l:=by
 obtain ⟨css,h1,h2⟩:=h
 refine ⟨css,h1.keep fun k hk=>⟨.inl hk,rfl⟩,?_⟩
 obtain ⟨hlen,h3⟩:=h2
 rcases h3 with ⟨rfl,h0⟩ | ⟨g,cap,cur,rfl,hb,hg,hnc,hcm,hcs,ht⟩
 ·obtain rfl:=List.eq_nil_of_length_eq_zero h0
  have hc0:css=[]:=List.eq_nil_of_length_eq_zero (by rw [h1.1];rfl)
  subst hc0
  exact ⟨none,0,rfl,Nat.le_refl _,Nat.zero_le _,Nat.zero_le _,.inl rfl⟩
 ·refine ⟨_,cap,rfl,hnc,hcm,hl,.inr ⟨g,0,rfl,.inr rfl,fun j hj=>?_⟩⟩
  rw [Nat.zero_add,cell_of_row w g j cur e (0,0) hg]
  have e1:(cur.toList.take (l.length*K.n))[j]?=some css.flatten[j]:=by rw [ht];exact List.getElem?_eq_getElem hj
  rw [List.getElem?_take] at e1
  split at e1
  ·simpa using e1
  ·cases e1
section
variable {P:Program}
end
def upd (O:Nat->Value) (j:Nat) (v:Value):Nat->Value:=fun i=>if i=j then v else O i
theorem upd_eq (O:Nat->Value) (j:Nat) (v:Value):upd O j v j=v:=if_pos rfl
theorem upd_ne (O:Nat->Value) {i j:Nat} (v:Value) (h:i ≠ j):upd O j v i=O i:=if_neg h
def Fin' (b:Nat) (O:Nat->Value) (w:World) (k:Nat):Prop:=k<w.heap.size/\k ≠ b/\∀ i,(O i).ownBlock ≠ some k
structure Owns (b:Nat) (O:Nat->Value) (w:World):Prop where
 ne:∀ i j k,i ≠ j->(O i).ownBlock=some k->(O j).ownBlock ≠ some k
 lt:∀ i k,(O i).ownBlock=some k->b<k/\k<w.heap.size
theorem Owns.size {b:Nat} {O:Nat->Value} {w w':World} (h:Owns b O w) (hs:w.heap.size<=w'.heap.size):Owns b O w' :=
 ⟨h.ne,fun i k hk=>let ⟨a,c⟩:=h.lt i k hk;⟨a,by omega⟩⟩
theorem Owns.moved {b:Nat} {O:Nat->Value} {w w':World} {j:Nat} {v':Value} (h:Owns b O w) (hm:Moved w (O j) v') (hs:w.heap.size<=w'.heap.size) (hb:b<w.heap.size) (hv:∀ k,v'.ownBlock=some k->k<w'.heap.size):Owns b (upd O j v') w':=by
 have hn:∀ i k,i ≠ j->(O i).ownBlock=some k->v'.ownBlock ≠ some k:=fun i k hij hk e=>by
  rcases hm with e' | ⟨q,e',hq⟩
  ·exact h.ne i j k hij hk (e'.symm.trans e)
  ·rw [e'] at e;cases e;have:=(h.lt i _ hk).2;omega
 refine ⟨fun i i' k hii hk=>?_,fun i k hk=>?_⟩
 ·by_cases h1:i=j
  ·subst h1
   rw [upd_eq] at hk
   rw [upd_ne O v' (Ne.symm hii)]
   exact fun e=>hn i' k (Ne.symm hii) e hk
  ·rw [upd_ne O v' h1] at hk
   by_cases h2:i'=j
   ·subst h2;rw [upd_eq];exact hn i k h1 hk
   ·rw [upd_ne O v' h2];exact h.ne i i' k hii hk
 ·by_cases h1:i=j
  ·subst h1
   rw [upd_eq] at hk
   refine ⟨?_,hv k hk⟩
   rcases hm with e' | ⟨q,e',hq⟩
   ·exact (h.lt i k (e'.symm.trans hk)).1
   ·rw [e'] at hk;cases hk;omega
  ·rw [upd_ne O v' h1] at hk
   obtain ⟨a,c⟩:=h.lt i k hk
   exact ⟨a,by omega⟩
theorem Fin'.size {b:Nat} {O:Nat->Value} {w w':World} {k:Nat} (h:Fin' b O w k) (hs:w.heap.size<=w'.heap.size):Fin' b O w' k:=⟨by have:=h.1;omega,h.2⟩
theorem Fin'.moved {b:Nat} {O:Nat->Value} {w w':World} {j k:Nat} {v':Value} (h:Fin' b O w k) (hm:Moved w (O j) v') (hs:w.heap.size<=w'.heap.size):Fin' b (upd O j v') w' k:=by
 refine ⟨by have:=h.1;omega,h.2.1,fun i=>?_⟩
 by_cases h1:i=j
 ·subst h1;rw [upd_eq]
  rcases hm with e' | ⟨q,e',hq⟩
  ·rw [e'];exact h.2.2 i
  ·rw [e'];intro e;cases e;have:=h.1;omega
 ·rw [upd_ne O v' h1];exact h.2.2 i
structure Step (b:Nat) (O:Nat->Value) (j:Nat) (w w':World):Prop where
 os:w'.os=w.os
 tape:w'.tape=w.tape
 output:w'.output=w.output
 size:w.heap.size<=w'.heap.size
 block:∀ k,k<w.heap.size->k ≠ b->(O j).ownBlock ≠ some k->w'.heap[k]?=w.heap[k]?
theorem Step.of_but {b j:Nat} {O:Nat->Value} {w w':World} (h:But (fun k=>k=b) w w'):Step b O j w w':=⟨h.os,h.tape,h.output,h.size,fun k hk hb _=>h.block k hk hb⟩
theorem Step.of_grown {b j:Nat} {O:Nat->Value} {w w':World} {o:Obj} (hg:(w.alloc o).grownBy w' (O j).ownBlock):Step b O j w w':=by
 have hs:=hg.size
 rw [sA] at hs
 refine ⟨hg.os,hg.tape,hg.output,by omega,fun k hk _ hne=>?_⟩
 rw [hg.block k (by rw [sA];omega) (fun e=>hne e.symm),heap_al,if_neg (by omega)]
theorem Step.set {b j:Nat} {O:Nat->Value} {w w':World} (h:Step b O j w w') (i:Nat) (v:Value):Step b O j w (w'.setCell ⟨b,i,none⟩ v) :=
 ⟨h.os,h.tape,h.output,by simp only [World.size_setCell];exact h.size,fun k hk hb hne=>by rw [heap_ot hb];exact h.block k hk hb hne⟩
theorem Step.below {B b j:Nat} {O:Nat->Value} {w w':World} (h:Step b O j w w') (ho:Owns b O w) (hb:B<=b) (hB:B<=w.heap.size):Below B w w' :=
 ⟨h.os,h.tape,h.output,h.size,fun k hk=>h.block k (by omega) (by omega) fun e=>by have:=(ho.lt j k e).1;omega⟩
theorem GR.stay {α:Type} {K:EK α} {B b e i j:Nat} {O:Nat->Value} {w w':World} {v':Value} {l:List α} (h:GR K (Fin' b O w) B e w (O i) l) (ho:Owns b O w) (hs:Step b O j w w') (hm:Moved w (O j) v') (hij:i ≠ j):GR K (Fin' b (upd O j v') w') B e w' (upd O j v' i) l:=by
 rw [upd_ne O v' hij]
 exact h.keep (fun k hk=>⟨hk.moved hm hs.size,hs.block k hk.1 hk.2.1 (hk.2.2 j)⟩) fun k hk=>hs.block k (ho.lt i k hk).2 (by have:=(ho.lt i k hk).1;omega) (ho.ne i j k hij hk)
theorem GR.fin {α:Type} {K:EK α} {B b e:Nat} {O:Nat->Value} {w w':World} {v:Value} {l:List α} (h:GR K (Fin' b O w) B e w v l) (hs:But (fun k=>k=b) w w') (hv:v.ownBlock ≠ some b):GR K (Fin' b O w') B e w' v l :=
 h.keep (fun k hk=>⟨hk.size hs.size,hs.block k hk.1 hk.2.1⟩) fun k hk=>hs.block k (h.lt k hk).2 fun e=>hv (by rw [<- e];exact hk)
abbrev psL (O:Nat->Value) (wd:Int) (wv:Value) (at' inn step:Nat):List Value:=[.int .i64 wd,O 1,O 2,O 3,O 4,wv,.int .i64 (at':Int),O 7,O 8,O 9,O 10,.int .i64 (inn:Int),.int .i64 (step:Int)]
def FuR (b:Nat) (O:Nat->Value) (w:World) (inn:Nat) (fs:List Fu):Prop :=
  ∃ css,w.ownsRow b 74 5 (O 3) fs.length css.flatten /\
    ((inn=1/\∃ cs0 gs f pv,fs=gs++[f]/\css=cs0++[[.string ⟨f.nm.toArray⟩,pv,O 20,.int .i64 f.pos.1,.int .i64 f.pos.2]]/\Each kFu (Fin' b O w) w cs0 gs/\SlG kStr (Fin' b O w) w pv f.params/\GR kIn (Fin' b O w) b 41 w (O 20) f.code) \/
     (inn ≠ 1/\O 20=.slice none 0 0/\Each kFu (Fin' b O w) w css fs))
structure PsR (b:Nat) (w:World) (O:Nat->Value) (S:PS):Prop where
 ow:Owns b O w
 ch:GR kStr (Fin' b O w) b 9 w (O 1) S.p.chans
 ar:GR kAr (Fin' b O w) b 87 w (O 2) S.p.arrays
 fu:FuR b O w S.inn S.p.funcs
 mn:GR kIn (Fin' b O w) b 41 w (O 4) S.p.main
 an:GR kStr (Fin' b O w) b 9 w (O 7) (anamesP S.p)
 fn:GR kStr (Fin' b O w) b 9 w (O 8) (S.p.funcs.map Fu.nm)
 lb:GR kStr (Fin' b O w) b 9 w (O 9) S.labels
 st:GR kStr (Fin' b O w) b 9 w (O 10) S.sites
end Go.Proofs.YtoofbgoeipijcaaGreatDoor
namespace Go.Proofs.YtoofbgoeipijcaaGreatDoor
set_option maxRecDepth 100000
set_option maxHeartbeats 4000000
set_option linter.all false
open Go.RowKit Go.Shelf
attribute [local go_sem] Oper.semAt_some
def fltP (f:Flt):List PanicEntry:=[{ v := .iface 102 (.agg #[.int .i64 f.1.1,.int .i64 f.1.2,.int .i64 f.2]),recovered:=false }]
def NeedP (c:Bool) (f:Flt) (w:World) (e:Ending) (w':World):Prop:=Below w.heap.size w w'/\((c=true/\e=.returned (.tuple #[]))\/(c=false/\e=.panicked (fltP f)))
theorem pneed_any (c:Bool) (pos:Int × Int) (er:Int) (w:World):Calls Tryz.prog 68 #[.bool c,posV pos,.int .i64 er] w (NeedP c (pos,er) w):=by
 unfold posV
 cases c
 ·go_enter Tryz.func68,Tryz.ntmps68
  go_wp2
  exact ⟨rfl,bA,.inr ⟨rfl,rfl⟩⟩
 ·go_enter Tryz.func68,Tryz.ntmps68
  go_wp2
  go_end0
  exact ⟨bA,.inl ⟨rfl,rfl⟩⟩
theorem slg_lit (w:World) (l:List Bs) (te:TypeId) (hl:l.length<=1000):SlG kStr (fun k=>k=w.heap.size) (w.alloc (.cells (l.map fun s=>Value.string ⟨s.toArray⟩).toArray te)) (.slice (some ⟨w.heap.size,0,none⟩) l.length l.length) l:=by
 refine ⟨l.map fun s=>[.string ⟨s.toArray⟩],⟨by simp,fun i h h'=>?_⟩,_,_,rfl,Nat.le_refl _,by unfold maxLen;omega,by omega,?_⟩
 ·rw [List.getElem_map];rfl
 ·rw [show (l.map fun s=>[Value.string ⟨s.toArray⟩]).flatten=l.map fun s=>Value.string ⟨s.toArray⟩ from by induction l with | nil=>rfl | cons a r ih=>simp only [List.map_cons,List.flatten_cons];rw [ih (by simp at hl;omega)];rfl]
  exact RowR.lit w _ te rfl
theorem pkey_any (s:Bs) (w:World):Calls Tryz.prog 194 #[.string ⟨s.toArray⟩] w fun e w'=>e=.returned (.bool (opB s || kwB s))/\Below w.heap.size w w':=by
 obtain ⟨o,ho⟩:∃ o,ofM s=o:=⟨_,rfl⟩
 have hne:=ofM_err s
 rw [ho] at hne
 have HO:=hid ho
 obtain ⟨o1,o2⟩:=o
 simp only at hne
 obtain ⟨bo,hbo⟩:∃ b,opB s=b:=⟨_,rfl⟩
 rw [hbo] at hne ⊢
 have hq:(o2 == 0)=bo:=by rw [bne] at hne;revert hne;cases (o2 == 0) <;> cases bo <;> simp
 have hq2:decide (o2=0)=bo:=by rw [<- hq];exact Bool.eq_iff_iff.2 ⟨fun h=>by simpa using h,fun h=>by simpa using h⟩
 clear ho hbo hne
 obtain ⟨bk,hbk⟩:∃ b,kwL.contains s=b:=⟨_,rfl⟩
 have hk:=fun W=>contains_any kwL s _ _ _ (slg_lit W kwL 9 (by decide))
 simp only [hbk] at hk
 have HK:=hid hk
 rw [show kwB s=bk from hbk]
 clear hk hbk
 go_enter Tryz.func194,Tryz.ntmps194
 cases bo <;> go_wp2_with (first
  | (go_at_call 200;(with_reducible refine (of_any s _).mono ?_);rw [HO.out];rintro e w1 ⟨rfl,hb1⟩;have HB1:=hid hb1;clear hb1)
  | (go_at_call 150;(refine (HK.out _).mono ?_);rintro e w3 ⟨rfl,rfl⟩))
 all_goals go_ret
 all_goals exact ⟨rfl,by first | exact HB1.alloc HB1.size _ | exact HB1.out⟩
theorem pnamed_any (s:Bs) (w:World):Calls Tryz.prog 151 #[.string ⟨s.toArray⟩] w fun e w'=>e=.returned (.bool (namedB s))/\Below w.heap.size w w':=by
 obtain ⟨bn,hbn⟩:∃ b,nameB s=b:=⟨_,rfl⟩
 have HNB:=hid (show namedB s=(bn && !(opB s || kwB s)) from by unfold namedB;rw [hbn];cases bn <;> simp)
 have HBN:=hid hbn
 clear hbn
 obtain ⟨bk,hbk⟩:∃ b,(opB s || kwB s)=b:=⟨_,rfl⟩
 have HBK:=hid hbk
 rw [hbk] at HNB
 clear hbk
 go_enter Tryz.func151,Tryz.ntmps151
 cases bn <;> go_wp2_with (first
  | (go_at_call 193;(with_reducible refine (name_all s _).mono ?_);rw [HBN.out];rintro e w1 ⟨rfl,hb1⟩;have HB1:=hid hb1;clear hb1)
  | (go_at_call 194;(with_reducible refine (pkey_any s _).mono ?_);rw [HBK.out];rintro e w3 ⟨rfl,hb⟩;have HB3:=hid (HB1.out.trans (hb.mono HB1.out.size));clear hb))
 all_goals go_ret
 ·exact ⟨by rw [HNB.out];rfl,HB1.out⟩
 ·exact ⟨by rw [HNB.out];simp,HB3.out⟩
structure WOk (ws:List Wd):Prop where
 ne:ws ≠ []
 len:ws.length<=65537
 each:∀ x ∈ ws,x.1 ≠ []/\x.1.length<=65537
def fpos (ws:List Wd):Int × Int:=wpos (ws.headD ([],0,0))
abbrev wdV (x:Wd):Value := .agg #[.string ⟨x.1.toArray⟩,.int .i64 (x.2.1:Int),.int .i64 (x.2.2:Int)]
structure Rd (b:Nat) (O:Nat->Value) (wd:Int) (pw:Option Addr) (cw inn step:Nat) (ws:List Wd) (k:Nat) (w:World):Prop where
 box:BxL 106 b (psL O wd (.slice pw ws.length cw) k inn step) w
 row:RowR (·<b) w pw (wflat ws)
def RdP {α:Type} (B b:Nat) (O:Nat->Value) (wd:Int) (pw:Option Addr) (cw inn step:Nat) (ws:List Wd) (V:α->World->Value->Prop) (w:World) (m:PE (α × List Wd)) (e:Ending) (w':World):Prop :=
 Below B w w'/\((∃ f,m=.error f/\e=.panicked (fltP f))\/∃ a k v,m=.ok (a,ws.drop k)/\k<=ws.length/\e=.returned v/\V a w' v/\Rd b O wd pw cw inn step ws k w'/\But (fun i=>i=b) w w')
theorem BxL.but {t:TypeId} {b c:Nat} {cs:List Value} {w w':World} (h:BxL t c cs w) (hb:But (fun i=>i=b) w w') (hc:c ≠ b):BxL t c cs w':=h.keep (hb.block c h.lt hc)
section
variable {B b:Nat} {O:Nat->Value} {wd:Int} {pw:Option Addr} {cw inn step:Nat} {ws:List Wd} {k:Nat} {w w':World}
theorem Rd.below (h:Rd b O wd pw cw inn step ws k w) (hb:Below w.heap.size w w'):Rd b O wd pw cw inn step ws k w':=⟨h.box.bel hb,h.row.keep fun i hi=>⟨hi,hb.block i (Nat.lt_trans hi h.box.lt)⟩⟩
theorem Rd.al (h:Rd b O wd pw cw inn step ws k w) (o:Obj):Rd b O wd pw cw inn step ws k (w.alloc o):=h.below (bA)
theorem Rd.set (h:Rd b O wd pw cw inn step ws k w) (n:Nat):Rd b O wd pw cw inn step ws n (w.setCell ⟨b,6,none⟩ (.int .i64 (n:Int))) :=
 ⟨h.box.set 6 _,h.row.keep fun i hi=>⟨hi,heap_ot (Nat.ne_of_lt hi) _⟩⟩
theorem Rd.other (h:Rd b O wd pw cw inn step ws k w) {c i:Nat} (v:Value) (hc:b<c):Rd b O wd pw cw inn step ws k (w.setCell ⟨c,i,none⟩ v):=⟨h.box.keep (heap_ot (by omega) _),h.row.keep fun j hj=>⟨hj,heap_ot (by omega) _⟩⟩
theorem Rd.at (h:Rd b O wd pw cw inn step ws k w) (hw:0<ws.length):∃ wb off,pw=some ⟨wb,off,none⟩/\wb<w.heap.size/\wb ≠ b/\∀ j (hj:j<ws.length),w.cell? ⟨wb,off+j*3,none⟩=some (.string ⟨ws[j].1.toArray⟩)/\w.cell? ⟨wb,off+j*3+1,none⟩=some (.int .i64 (ws[j].2.1:Int))/\w.cell? ⟨wb,off+j*3+2,none⟩=some (.int .i64 (ws[j].2.2:Int)):=by
 obtain ⟨wb,off,e,hR,hc⟩:=h.row.atW 0 hw
 exact ⟨wb,off,e,Nat.lt_trans hR h.box.lt,Nat.ne_of_lt hR,hc⟩
end
theorem WOk.pos {ws:List Wd} (h:WOk ws):0<ws.length:=List.length_pos_iff.2 h.ne
theorem But.al {F:Nat->Prop} {w w':World} (h:But F w w') (o:Obj):But F w (w'.alloc o):=h.trans (But.of_below F ((Below.refl _ _).alloc lrf o))
theorem But.setC {F:Nat->Prop} {w w':World} (h:But F w w') {c i:Nat} (v:Value) (hc:F c\/w.heap.size<=c):But F w (w'.setCell ⟨c,i,none⟩ v) :=
 ⟨h.os,h.tape,h.output,by simp only [World.size_setCell];exact h.size,fun k hk hF=>by
  rw [heap_ot (fun e=>by subst e;rcases hc with hc | hc;exact hF hc;omega)];exact h.block k hk hF⟩
theorem But.dr {F:Nat->Prop} {w w':World} (h:But F w w'):But F w w'.drew:=h.trans (But.of_below F (Below.refl _ _).drew)
theorem first_any {b:Nat} {O:Nat->Value} {wd:Int} {pw:Option Addr} {cw inn step:Nat} {ws:List Wd} {k:Nat} {w:World} (hd:Rd b O wd pw cw inn step ws k w) (hw:WOk ws):Calls Tryz.prog 178 #[.pointer (some ⟨b,0,none⟩)] w fun e w'=>e=.returned (posV (fpos ws))/\Below w.heap.size w w':=by
 obtain ⟨wb,off,rfl,hwb,hne,hc⟩:=hd.at hw.pos
 have h0:=hc 0 hw.pos
 have HF:=hid (show fpos ws=(((ws[0]'hw.pos).2.1:Int),((ws[0]'hw.pos).2.2:Int)) from by
  have:=hw.pos
  cases ws with
  | nil=>simp at this
  | cons x r=>rfl)
 obtain ⟨x,hx⟩:∃ x,ws[0]'hw.pos=x:=⟨_,rfl⟩
 rw [hx] at h0 HF
 obtain ⟨h0,h1,h2⟩:=h0
 rw [show off+0*3=off from by omega] at h0 h1 h2
 have c5:=hd.box.at 5 rfl
 have hl:=hw.pos
 have hsz:b<w.heap.size:=hd.box.lt
 have HB:=hid hd.box
 clear hd hc hx hw
 obtain ⟨L,hL⟩:∃ L,ws.length=L:=⟨_,rfl⟩
 rw [hL] at c5 hl
 clear hL
 have a1:∀ c t,(w.alloc (.cells c t)).cell? ⟨b,5,none⟩=some (.slice (some ⟨wb,off,none⟩) L cw):=fun c t=>by rw [cell_al,if_neg (by show b ≠ _;omega)];exact c5
 have a2:∀ c t,(w.alloc (.cells c t)).cell? ⟨wb,off+1,none⟩=some (.int .i64 (x.2.1:Int)):=fun c t=>by rw [cell_al,if_neg (by show wb ≠ _;omega)];exact h1
 have a3:∀ c t,(w.alloc (.cells c t)).cell? ⟨wb,off+2,none⟩=some (.int .i64 (x.2.2:Int)):=fun c t=>by rw [cell_al,if_neg (by show wb ≠ _;omega)];exact h2
 go_enter Tryz.func178,Tryz.ntmps178
 go_wp2
 refine bodyPost_ret (v:=posV ((x.2.1:Int),(x.2.2:Int))) (by simp [results,Tryz.results178,go_sem]) rfl ?_
 exact ⟨by rw [HF.out],(bA)⟩
theorem next_any {B b:Nat} {O:Nat->Value} {wd:Int} {pw:Option Addr} {cw inn step:Nat} {ws:List Wd} {k:Nat} {w:World} (hd:Rd b O wd pw cw inn step ws k w) (hk:k<=ws.length) (hw:WOk ws) (hB:B<=b):Calls Tryz.prog 144 #[.pointer (some ⟨b,0,none⟩)] w (RdP B b O wd pw cw inn step ws (fun a _ v=>v=wdV a) w (nextP (fpos ws) (ws.drop k))):=by
 obtain ⟨wb,off,rfl,hwb,hne,hc⟩:=hd.at hw.pos
 have HD:=hid hd;have HW:=hid hw;have HBB:=hid hB;have HLE:=hid hk;have HSZ:=hid hd.box.lt
 have c5:=hd.box.at 5 rfl
 have c6:=hd.box.at 6 rfl
 clear hd hw hB hk hc
 go_enter Tryz.func144,Tryz.ntmps144
 go_upto_region 1 with fail
 obtain ⟨w1,hw1⟩:∃ W,w.alloc (.cells #[.string ⟨#[]⟩,.int .i64 0,.int .i64 0] 128)=W:=⟨_,rfl⟩
 have hD1:Rd b O wd (some ⟨wb,off,none⟩) cw inn step ws k w1:=by rw [<- hw1];exact HD.al _
 have hX1:BxL 128 w.heap.size [.string ⟨#[]⟩,.int .i64 0,.int .i64 0] w1:=by rw [<- hw1];exact BxL.new _ _ _
 have hB1:Below w.heap.size w w1:=by rw [<- hw1];exact bA
 rw [hw1]
 clear hw1 c5 c6
 have hS:(fun W=>W.cell? ⟨b,5,none⟩=some (.slice (some ⟨wb,off,none⟩) ws.length cw)/\W.cell? ⟨b,6,none⟩=some (.int .i64 (k:Int))) w1.drew:=⟨hD1.box.at 5 rfl,hD1.box.at 6 rfl⟩
 have HD1:=hid hD1;have HX1:=hid hX1;have HB1:=hid hB1
 clear hD1 hX1 hB1
 have hFa:=fT
 refine rgP (fun _ _ _ h=>h) (fun W=>W.cell? ⟨b,5,none⟩=some (.slice (some ⟨wb,off,none⟩) ws.length cw)/\W.cell? ⟨b,6,none⟩=some (.int .i64 (k:Int))) 13 (by kernel_rfl) ?_
 simp only [zP,Nat.reduceAdd]
 iterate 11 (refine nxW (v:=?_) 13 hS ?_ ?_;rotate_left;(focus rintro w' ⟨s0,s1⟩;go_simp;try rfl);simp only [aP])
 refine oy 11 fun K hK=>?_
 go_simp
 (with_reducible refine (callsIn_wide.2 (first_any (HD1.out.below (Below.refl _ _).drew) HW.out)).mono ?_)
 rintro e wf ⟨rfl,hbf⟩
 have HBF:=hid (HB1.drew.trans (hbf.mono HB1.size))
 have HDF:=hid ((HD1.below (Below.refl _ _).drew).below hbf)
 have HXF:=hid ((HX1.bel (Below.refl _ _).drew).bel hbf)
 clear hbf
 have hSf:(fun W=>W.cell? ⟨b,5,none⟩=some (.slice (some ⟨wb,off,none⟩) ws.length cw)/\W.cell? ⟨b,6,none⟩=some (.int .i64 (k:Int))) wf:=⟨HDF.box.at 5 rfl,HDF.box.at 6 rfl⟩
 refine hK _ _ (.inr (.inr hSf)) ?_
 clear hK K
 refine oy 12 fun K hK=>?_
 go_simp
 (with_reducible refine (callsIn_wide.2 (pneed_any _ _ _ _)).mono ?_)
 rintro e wn ⟨hbn,⟨hc,rfl⟩ | ⟨hc,rfl⟩⟩
 rotate_left
 ·refine ⟨rfl,((HBF.trans (hbn.mono HBF.size)).mono (Nat.le_of_lt (Nat.lt_of_le_of_lt HBB.out HSZ.out))),.inl ⟨_,?_,rfl⟩⟩
  rw [List.drop_eq_nil_of_le (by simpa using hc)];rfl
 have HBN:=hid (HBF.trans (hbn.mono HBF.size))
 have HDN:=hid (HDF.below hbn)
 have HXN:=hid (HXF.bel hbn)
 have hlt:k<ws.length:=by simpa using hc
 clear hbn hc
 have hSn:(fun W=>W.cell? ⟨b,5,none⟩=some (.slice (some ⟨wb,off,none⟩) ws.length cw)/\W.cell? ⟨b,6,none⟩=some (.int .i64 (k:Int))) wn:=⟨HDN.box.at 5 rfl,HDN.box.at 6 rfl⟩
 refine hK _ _ (.inr (.inr hSn)) (dN ?_)
 clear hK K
 simp only [onlyP,Exit.then]
 clear hFa
 have c6:=HDN.box.at 6 rfl
 have f6:=HDN.box.fr 6
 have a1:=wrap_next hlt (by have:=HW.len;omega)
 have HLT:=hid hlt
 clear hlt hSn
 go_upto_region 3 with fail
 obtain ⟨w2,hw2⟩:∃ W,wn.setCell ⟨b,6,none⟩ (.int .i64 ((k:Int)+1))=W:=⟨_,rfl⟩
 have HD2:=hid (show Rd b O wd (some ⟨wb,off,none⟩) cw inn step ws (k+1) w2 from by rw [<- hw2];exact HDN.set (k+1))
 have HN2:=hid (show But (fun i=>i=b) w w2 from by rw [<- hw2];exact (But.of_below _ HBN.out).setC _ (.inl rfl))
 have HX2:=hid (show BxL 128 w.heap.size [.string ⟨#[]⟩,.int .i64 0,.int .i64 0] w2 from by rw [<- hw2];exact HXN.keep (heap_ot (by have:=HSZ.out;omega) _))
 rw [hw2]
 clear hw2 c6 f6 a1
 obtain ⟨wb',off',e,hwb2,_,hc⟩:=HD2.at HW.pos
 cases e
 obtain ⟨x,hx⟩:∃ x,ws[k]'HLT.out=x:=⟨_,rfl⟩
 have h0:=hc k HLT.out
 rw [hx] at h0
 obtain ⟨h0,h1,h2⟩:=h0
 have HMX:=hid (show ws.drop k=x :: ws.drop (k+1) from by rw [<- hx];exact List.drop_eq_getElem_cons HLT.out)
 have hS:(fun W=>W.cell? ⟨b,5,none⟩=some (.slice (some ⟨wb,off,none⟩) ws.length cw)/\W.cell? ⟨b,6,none⟩=some (.int .i64 ((k:Int)+1))/\W.cell? ⟨wb,off+k*3,none⟩=some (.string ⟨x.1.toArray⟩)/\W.cell? ⟨wb,off+k*3+1,none⟩=some (.int .i64 (x.2.1:Int))/\W.cell? ⟨wb,off+k*3+2,none⟩=some (.int .i64 (x.2.2:Int))) w2.drew:=⟨HD2.box.at 5 rfl,HD2.box.at 6 rfl,h0,h1,h2⟩
 have t0:=HX2.fr 0
 have t1:=HX2.fr 1
 have t2:=HX2.fr 2
 obtain ⟨t3,t4,t5⟩:=HX2.p3
 clear hc hx h0 h1 h2
 have hlt:=HLT.out
 have wk:IntKind.i64.wrap (k:Int)=(k:Int):=IntWalk.i64_in _ (by have:=HW.len;omega)
 have hFa:=fT
 refine rgN (fun W=>W.cell? ⟨b,5,none⟩=some (.slice (some ⟨wb,off,none⟩) ws.length cw)/\W.cell? ⟨b,6,none⟩=some (.int .i64 ((k:Int)+1))/\W.cell? ⟨wb,off+k*3,none⟩=some (.string ⟨x.1.toArray⟩)/\W.cell? ⟨wb,off+k*3+1,none⟩=some (.int .i64 (x.2.1:Int))/\W.cell? ⟨wb,off+k*3+2,none⟩=some (.int .i64 (x.2.2:Int))) 11 (by kernel_rfl) ?_
 simp only [zP,Nat.reduceAdd]
 iterate 11 (refine nxW (v:=?_) 12 hS ?_ ?_;rotate_left;(focus rintro w' ⟨s0,s1,s2,s3,s4⟩;go_simp;try rfl);simp only [aP])
 refine oy 11 fun K hK=>?_
 go_simp
 refine hK _ _ (.inl rfl) (dN ?_)
 clear hK K
 simp only [onlyN,Exit.then]
 clear hFa
 have e0:∀ i,i<3->True:=fun _ _=>trivial
 generalize hw3:World.setCell _ _ _=w3
 have hX3:BxL 128 w.heap.size [.string ⟨x.1.toArray⟩,.int .i64 (x.2.1:Int),.int .i64 (x.2.2:Int)] w3:=by rw [<- hw3];exact ((HX2.set 0 _).set 1 _).set 2 _
 have hD3:Rd b O wd (some ⟨wb,off,none⟩) cw inn step ws (k+1) w3:=by rw [<- hw3];exact ((HD2.other _ HSZ.out).other _ HSZ.out).other _ HSZ.out
 have hN3:But (fun i=>i=b) w w3:=by rw [<- hw3];exact ((HN2.setC _ (.inr lrf)).setC _ (.inr lrf)).setC _ (.inr lrf)
 clear hw3 hS
 have HD3:=hid hD3;have HN3:=hid hN3
 obtain ⟨g0,g1,g2⟩:=hX3.p3
 clear hD3 hN3 hX3 t0 t1 t2 t3 t4 t5
 go_wp2_with fail
 refine bodyPost_ret (v:=wdV x) (by simp [results,Tryz.results144,go_sem,wdV,g0,g1,g2]) rfl ?_
 have hb3:Below B w w3:=HN3.below (Nat.le_of_lt (Nat.lt_of_le_of_lt HBB.out HSZ.out)) (fun i e=>e ▸ HBB.out)
 refine ⟨by first | exact hb3.drew | exact hb3,.inr ⟨x,k+1,_,by rw [HMX.out];rfl,HLT.out,rfl,rfl,by first | exact HD3.out | exact HD3.below (Below.refl _ _).drew,by first | exact HN3.out | exact HN3.dr⟩⟩
end Go.Proofs.YtoofbgoeipijcaaGreatDoor
