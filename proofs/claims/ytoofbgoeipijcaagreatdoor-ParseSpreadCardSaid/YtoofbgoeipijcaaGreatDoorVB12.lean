/-
 A part.
-/
import Derived.Test.YtoofbgoeipijcaaGreatDoorVB11
namespace Go.Proofs.YtoofbgoeipijcaaGreatDoor
set_option maxRecDepth 100000
set_option maxHeartbeats 2000000
set_option linter.all false
open Go.RowKit Go.Shelf
attribute [local go_sem] Oper.semAt_some
abbrev posV (p:Int × Int):Value := .agg #[.int .i64 p.1,.int .i64 p.2]
def fltC (f:Flt):List PanicEntry:=[{ v := .iface 116 (.agg #[.int .i64 f.1.1,.int .i64 f.1.2,.int .i64 f.2]),recovered:=false }]
structure But (F:Nat->Prop) (w w':World):Prop where
 os:w'.os=w.os
 tape:w'.tape=w.tape
 output:w'.output=w.output
 size:w.heap.size<=w'.heap.size
 block:∀ k,k<w.heap.size->¬ F k->w'.heap[k]?=w.heap[k]?
theorem But.refl (F:Nat->Prop) (w:World):But F w w:=⟨rfl,rfl,rfl,Nat.le_refl _,fun _ _ _=>rfl⟩
theorem But.of_below {w w':World} (F:Nat->Prop) (h:Below w.heap.size w w'):But F w w':=⟨h.os,h.tape,h.output,h.size,fun k hk _=>h.block k hk⟩
theorem But.trans {F:Nat->Prop} {a b c:World} (h:But F a b) (k:But F b c):But F a c :=
 ⟨k.os.trans h.os,k.tape.trans h.tape,k.output.trans h.output,Nat.le_trans h.size k.size,fun i hi hF=>(k.block i (Nat.lt_of_lt_of_le hi h.size) hF).trans (h.block i hi hF)⟩
theorem But.below {F:Nat->Prop} {w w':World} {B:Nat} (h:But F w w') (hB:B<=w.heap.size) (hF:∀ k,F k->B<=k):Below B w w' :=
 ⟨h.os,h.tape,h.output,h.size,fun k hk=>h.block k (by omega) fun hf=>by have:=hF k hf;omega⟩
theorem But.mono {F G:Nat->Prop} {w w':World} (h:But F w w') (hFG:∀ k,F k->G k):But G w w':=⟨h.os,h.tape,h.output,h.size,fun k hk hg=>h.block k hk fun hf=>hg (hFG k hf)⟩
theorem But.of_grown {w w':World} {r:Nat} (h:w.grownBy w' (some r)):But (fun k=>k=r) w w':=⟨h.os,h.tape,h.output,h.size,fun k hk hF=>h.block k hk fun e=>by cases e;exact hF rfl⟩
def PrB (B:Nat) (w:World):Prop:=∃ w0,PrE0 w0/\w0.heap.size=B/\Below B w0 w
theorem PrB.e {B:Nat} {w:World} (h:PrB B w):PrE0 w:=by
 obtain ⟨w0,h0,rfl,hb⟩:=h
 exact h0.below hb
theorem PrB.step {B:Nat} {w w':World} (h:PrB B w) (hb:Below B w w'):PrB B w':=by
 obtain ⟨w0,h0,hs,hb0⟩:=h
 exact ⟨w0,h0,hs,hb0.trans hb⟩
theorem PrB.size {B:Nat} {w:World} (h:PrB B w):B<=w.heap.size:=by
 obtain ⟨w0,h0,rfl,hb⟩:=h
 exact hb.size
theorem PrE0.b {w:World} (h:PrE0 w):PrB w.heap.size w:=⟨w,h,rfl,Below.refl _ _⟩
theorem need_true (pos:Int × Int) (er:Int) (w:World):Calls Tryz.prog 118 #[.bool true,posV pos,.int .i64 er] w fun e w'=>e=.returned (.tuple #[])/\Below w.heap.size w w':=by
 unfold posV
 go_enter Tryz.func118,Tryz.ntmps118
 go_wp2
 go_end0
 exact ⟨rfl,bA⟩
theorem need_false (pos:Int × Int) (er:Int) (w:World):Calls Tryz.prog 118 #[.bool false,posV pos,.int .i64 er] w fun e w'=>e=.panicked (fltC (pos,er))/\Below w.heap.size w w':=by
 unfold posV
 go_enter Tryz.func118,Tryz.ntmps118
 go_wp2
 exact ⟨rfl,rfl,bA⟩
def DeclBad (f:Flt) (w:World) (e:Ending) (w':World):Prop:=e=.panicked (fltC f)/\Below w.heap.size w w'
def DeclOk (r:Nat) (l:List Bs) (w:World) (e:Ending) (w':World):Prop:=e=.returned (.tuple #[])/\NmS w' r l/\But (fun k=>k=r) w w'
theorem decl_bad (s:Bs) (pos:Int × Int) (r:Nat) (l:List Bs) (B:Nat) (w:World) (hE:PrB B w) (hm:NmS w r l) (hB:B<=r) (hn:namedB s=false) :
  Calls Tryz.prog 119 #[.map (some r),.string ⟨s.toArray⟩,posV pos] w (DeclBad (pos,4) w):=by
 have HE:=hid hE;have HM:=hid hm;have HBR:=hid hB
 have hrs:r<w.heap.size:=hm.lt
 have HRS:=hid hrs
 have HN:=hid hn
 clear hE hm hB hrs hn
 unfold posV
 go_enter Tryz.func119,Tryz.ntmps119
 go_wp2_with fail
 obtain ⟨w0,hw0⟩:∃ W,w.alloc (.cells #[.int .i64 pos.1,.int .i64 pos.2] 39)=W:=⟨_,rfl⟩
 have h0:w0.cell? ⟨w.heap.size,0,none⟩=some (.int .i64 pos.1):=by rw [<- hw0,cell_al];simp
 have h1:w0.cell? ⟨w.heap.size,1,none⟩=some (.int .i64 pos.2):=by rw [<- hw0,cell_al];simp
 have hb0:Below w.heap.size w w0:=by rw [<- hw0];exact bA
 rw [hw0]
 clear hw0
 have hb1:=hb0.drew
 have h0':w0.drew.cell? ⟨w.heap.size,0,none⟩=some (.int .i64 pos.1):=h0
 have h1':w0.drew.cell? ⟨w.heap.size,1,none⟩=some (.int .i64 pos.2):=h1
 clear h0 h1 hb0
 have hS:(fun W=>W.cell? ⟨w.heap.size,0,none⟩=some (.int .i64 pos.1)/\W.cell? ⟨w.heap.size,1,none⟩=some (.int .i64 pos.2)) w0.drew:=⟨h0',h1'⟩
 have HB1:=hid hb1
 clear hb1 h0' h1'
 have hFa:∀ f,Fence.wide.fn f:=fun _=>trivial
 refine (wpIn_wide (n:=9)).1 ?_
 refine wpIn_onlyP (fun c w'=>(DeclBad (pos,4) w) (.panicked c) w') (fun _ _ _ h=>h) ?_
 refine wpIn_region_HJ (fun W=>W.cell? ⟨w.heap.size,0,none⟩=some (.int .i64 pos.1)/\W.cell? ⟨w.heap.size,1,none⟩=some (.int .i64 pos.2)) 3 (by kernel_rfl) ?_
 simp only [zP,Nat.reduceAdd]
 refine wpHJ_pure (v:=?v0) 0 hFa rfl (by kernel_rfl) onlyP_put (Or.inl ⟨by rfl,?y0⟩) (.inr hS) ?r0
 case y0=>(intro w' _;go_simp;try rfl)
 simp only [aP]
 refine wpHJ_take (v:=?v1) 2 hFa rfl (by kernel_rfl) onlyP_put (Or.inl ⟨by rfl,?y1⟩) hS ?r1
 case y1=>(rintro w' ⟨s0,s1⟩;go_simp;try rfl)
 simp only [aP]
 refine oy 1 fun K hK=>?_
 go_simp
 (with_reducible refine (callsIn_wide.2 (named_any s w0.drew (HE.out.step (HB1.out.mono HE.out.size)).e)).mono ?_)
 rintro e w2 ⟨rfl,hb2⟩
 rw [HN.out]
 have hS2:(fun W=>W.cell? ⟨w.heap.size,0,none⟩=some (.int .i64 pos.1)/\W.cell? ⟨w.heap.size,1,none⟩=some (.int .i64 pos.2)) w2:=⟨cB hb2 hS.1,cB hb2 hS.2⟩
 have HB2:=hid (HB1.trans (hb2.mono HB1.size))
 clear hb2 hS
 refine hK _ _ (.inr (.inr hS2)) ?_
 clear hK K
 refine oy 3 fun K hK=>?_
 go_simp
 (with_reducible refine (callsIn_wide.2 (need_false pos 4 w2)).mono ?_)
 rintro e w3 ⟨rfl,hb3⟩
 exact ⟨rfl,rfl,HB2.trans (hb3.mono HB2.size)⟩
theorem decl_twice (s:Bs) (pos:Int × Int) (r:Nat) (l:List Bs) (B:Nat) (w:World) (hE:PrB B w) (hm:NmS w r l) (hB:B<=r) (hn:namedB s=true) (hc:l.contains s=true) :
  Calls Tryz.prog 119 #[.map (some r),.string ⟨s.toArray⟩,posV pos] w (DeclBad (pos,8) w):=by
 have HE:=hid hE;have HM:=hid hm;have HBR:=hid hB
 have hrs:r<w.heap.size:=hm.lt
 have HRS:=hid hrs
 have HN:=hid hn
 clear hE hm hB hrs hn
 unfold posV
 go_enter Tryz.func119,Tryz.ntmps119
 go_wp2_with fail
 obtain ⟨w0,hw0⟩:∃ W,w.alloc (.cells #[.int .i64 pos.1,.int .i64 pos.2] 39)=W:=⟨_,rfl⟩
 have h0:w0.cell? ⟨w.heap.size,0,none⟩=some (.int .i64 pos.1):=by rw [<- hw0,cell_al];simp
 have h1:w0.cell? ⟨w.heap.size,1,none⟩=some (.int .i64 pos.2):=by rw [<- hw0,cell_al];simp
 have hb0:Below w.heap.size w w0:=by rw [<- hw0];exact bA
 rw [hw0]
 clear hw0
 have hb1:=hb0.drew
 have h0':w0.drew.cell? ⟨w.heap.size,0,none⟩=some (.int .i64 pos.1):=h0
 have h1':w0.drew.cell? ⟨w.heap.size,1,none⟩=some (.int .i64 pos.2):=h1
 clear h0 h1 hb0
 have hS:(fun W=>W.cell? ⟨w.heap.size,0,none⟩=some (.int .i64 pos.1)/\W.cell? ⟨w.heap.size,1,none⟩=some (.int .i64 pos.2)) w0.drew:=⟨h0',h1'⟩
 have HB1:=hid hb1
 clear hb1 h0' h1'
 have hFa:∀ f,Fence.wide.fn f:=fun _=>trivial
 refine (wpIn_wide (n:=9)).1 ?_
 refine wpIn_onlyP (fun c w'=>(DeclBad (pos,8) w) (.panicked c) w') (fun _ _ _ h=>h) ?_
 refine wpIn_region_HJ (fun W=>W.cell? ⟨w.heap.size,0,none⟩=some (.int .i64 pos.1)/\W.cell? ⟨w.heap.size,1,none⟩=some (.int .i64 pos.2)) 3 (by kernel_rfl) ?_
 simp only [zP,Nat.reduceAdd]
 refine wpHJ_pure (v:=?v0) 0 hFa rfl (by kernel_rfl) onlyP_put (Or.inl ⟨by rfl,?y0⟩) (.inr hS) ?r0
 case y0=>(intro w' _;go_simp;try rfl)
 simp only [aP]
 refine wpHJ_take (v:=?v1) 2 hFa rfl (by kernel_rfl) onlyP_put (Or.inl ⟨by rfl,?y1⟩) hS ?r1
 case y1=>(rintro w' ⟨s0,s1⟩;go_simp;try rfl)
 simp only [aP]
 refine oy 1 fun K hK=>?_
 go_simp
 (with_reducible refine (callsIn_wide.2 (named_any s w0.drew (HE.out.step (HB1.out.mono HE.out.size)).e)).mono ?_)
 rintro e w2 ⟨rfl,hb2⟩
 rw [HN.out]
 have hS2:(fun W=>W.cell? ⟨w.heap.size,0,none⟩=some (.int .i64 pos.1)/\W.cell? ⟨w.heap.size,1,none⟩=some (.int .i64 pos.2)) w2:=⟨cB hb2 hS.1,cB hb2 hS.2⟩
 have HB2:=hid (HB1.trans (hb2.mono HB1.size))
 clear hb2 hS
 refine hK _ _ (.inr (.inr hS2)) ?_
 clear hK K
 refine oy 3 fun K hK=>?_
 go_simp
 (with_reducible refine (callsIn_wide.2 (need_true pos 4 w2)).mono ?_)
 rintro e w3 ⟨rfl,hb3⟩
 have HB3:=hid (HB2.trans (hb3.mono HB2.size))
 have g0:w3.cell? ⟨w.heap.size,0,none⟩=some (.int .i64 pos.1):=cB hb3 hS2.1
 have g1:w3.cell? ⟨w.heap.size,1,none⟩=some (.int .i64 pos.2):=cB hb3 hS2.2
 clear hb3 hS2
 refine hK _ _ (.inl rfl) (dN ?_)
 clear hK K
 simp only [onlyP,Exit.then]
 clear hFa
 have hm3:NmS w3 r l:=HM.keep (HB3.block r HRS.out)
 have HC:=hid hc
 clear hc
 go_wp2_with (first
  | (at_lookup;refine wpList_lookS rfl _ _ 119 rfl 9 4 Tryz.underlying119 Tryz.underlying9 (.bool false) (fun W=>by kernel_rfl) r (nmE l) s rfl hm3 rfl ?_;rw [nmE_get,HC.out])
  | (go_at_call 118;with_reducible refine (need_false pos 8 _).mono ?_;rintro e w4 ⟨rfl,hb4⟩;have HB4:=hid (HB3.out.trans (hb4.mono HB3.out.size));have hm4:=hm3.keep (hb4.block r hm3.lt);clear hb4 hm3))
 exact ⟨rfl,rfl,HB4.out⟩
theorem decl_ok (s:Bs) (pos:Int × Int) (r:Nat) (l:List Bs) (B:Nat) (w:World) (hE:PrB B w) (hm:NmS w r l) (hB:B<=r) (hn:namedB s=true) (hc:l.contains s=false) :
  Calls Tryz.prog 119 #[.map (some r),.string ⟨s.toArray⟩,posV pos] w (DeclOk r (l++[s]) w):=by
 have HE:=hid hE;have HM:=hid hm;have HBR:=hid hB
 have hrs:r<w.heap.size:=hm.lt
 have HRS:=hid hrs
 have HN:=hid hn
 clear hE hm hB hrs hn
 unfold posV
 go_enter Tryz.func119,Tryz.ntmps119
 go_wp2_with fail
 obtain ⟨w0,hw0⟩:∃ W,w.alloc (.cells #[.int .i64 pos.1,.int .i64 pos.2] 39)=W:=⟨_,rfl⟩
 have h0:w0.cell? ⟨w.heap.size,0,none⟩=some (.int .i64 pos.1):=by rw [<- hw0,cell_al];simp
 have h1:w0.cell? ⟨w.heap.size,1,none⟩=some (.int .i64 pos.2):=by rw [<- hw0,cell_al];simp
 have hb0:Below w.heap.size w w0:=by rw [<- hw0];exact bA
 rw [hw0]
 clear hw0
 have hb1:=hb0.drew
 have h0':w0.drew.cell? ⟨w.heap.size,0,none⟩=some (.int .i64 pos.1):=h0
 have h1':w0.drew.cell? ⟨w.heap.size,1,none⟩=some (.int .i64 pos.2):=h1
 clear h0 h1 hb0
 have hS:(fun W=>W.cell? ⟨w.heap.size,0,none⟩=some (.int .i64 pos.1)/\W.cell? ⟨w.heap.size,1,none⟩=some (.int .i64 pos.2)) w0.drew:=⟨h0',h1'⟩
 have HB1:=hid hb1
 clear hb1 h0' h1'
 have hFa:∀ f,Fence.wide.fn f:=fun _=>trivial
 refine (wpIn_wide (n:=9)).1 ?_
 refine wpIn_onlyP (fun c w'=>(DeclOk r (l++[s]) w) (.panicked c) w') (fun _ _ _ h=>h) ?_
 refine wpIn_region_HJ (fun W=>W.cell? ⟨w.heap.size,0,none⟩=some (.int .i64 pos.1)/\W.cell? ⟨w.heap.size,1,none⟩=some (.int .i64 pos.2)) 3 (by kernel_rfl) ?_
 simp only [zP,Nat.reduceAdd]
 refine wpHJ_pure (v:=?v0) 0 hFa rfl (by kernel_rfl) onlyP_put (Or.inl ⟨by rfl,?y0⟩) (.inr hS) ?r0
 case y0=>(intro w' _;go_simp;try rfl)
 simp only [aP]
 refine wpHJ_take (v:=?v1) 2 hFa rfl (by kernel_rfl) onlyP_put (Or.inl ⟨by rfl,?y1⟩) hS ?r1
 case y1=>(rintro w' ⟨s0,s1⟩;go_simp;try rfl)
 simp only [aP]
 refine oy 1 fun K hK=>?_
 go_simp
 (with_reducible refine (callsIn_wide.2 (named_any s w0.drew (HE.out.step (HB1.out.mono HE.out.size)).e)).mono ?_)
 rintro e w2 ⟨rfl,hb2⟩
 rw [HN.out]
 have hS2:(fun W=>W.cell? ⟨w.heap.size,0,none⟩=some (.int .i64 pos.1)/\W.cell? ⟨w.heap.size,1,none⟩=some (.int .i64 pos.2)) w2:=⟨cB hb2 hS.1,cB hb2 hS.2⟩
 have HB2:=hid (HB1.trans (hb2.mono HB1.size))
 clear hb2 hS
 refine hK _ _ (.inr (.inr hS2)) ?_
 clear hK K
 refine oy 3 fun K hK=>?_
 go_simp
 (with_reducible refine (callsIn_wide.2 (need_true pos 4 w2)).mono ?_)
 rintro e w3 ⟨rfl,hb3⟩
 have HB3:=hid (HB2.trans (hb3.mono HB2.size))
 have g0:w3.cell? ⟨w.heap.size,0,none⟩=some (.int .i64 pos.1):=cB hb3 hS2.1
 have g1:w3.cell? ⟨w.heap.size,1,none⟩=some (.int .i64 pos.2):=cB hb3 hS2.2
 clear hb3 hS2
 refine hK _ _ (.inl rfl) (dN ?_)
 clear hK K
 simp only [onlyP,Exit.then]
 clear hFa
 have hm3:NmS w3 r l:=HM.keep (HB3.block r HRS.out)
 have HC:=hid hc
 clear hc
 go_wp2_with (first
  | (at_lookup;refine wpList_lookS rfl _ _ 119 rfl 9 4 Tryz.underlying119 Tryz.underlying9 (.bool false) (fun W=>by kernel_rfl) r (nmE l) s rfl hm3 rfl ?_;rw [nmE_get,HC.out])
  | (go_at_call 118;with_reducible refine (need_true pos 8 _).mono ?_;rintro e w4 ⟨rfl,hb4⟩;have HB4:=hid (HB3.out.trans (hb4.mono HB3.out.size));have hm4:=hm3.keep (hb4.block r hm3.lt);clear hb4 hm3)
  | (at_mapUpdate;refine wpList_putS rfl _ _ _ 119 rfl 9 4 Tryz.underlying119 Tryz.underlying9 r (nmE l) s (.bool true) rfl hm4 rfl rfl ?_;intro w5 hm5 hg5;rw [nmE_put] at hm5))
 go_end0
 refine ⟨rfl,?_,(But.of_below _ HB4.out).trans ((But.of_grown hg5).mono fun k h=>h)⟩
 have e:addN l s=l++[s]:=by unfold addN;rw [HC.out];rfl
 rw [<- e];exact hm5
def BxL (t:TypeId) (b:Nat) (cs:List Value) (W:World):Prop:=W.heap[b]?=some (.cells cs.toArray t (0,0))
theorem BxL.new (t:TypeId) (W:World) (cs:List Value):BxL t W.heap.size cs (W.alloc (.cells cs.toArray t)):=by unfold BxL;rw [heap_al,if_pos rfl]
theorem BxL.lt {t:TypeId} {b:Nat} {cs:List Value} {W:World} (h:BxL t b cs W):b<W.heap.size:=(Array.getElem?_eq_some_iff.1 h).1
theorem BxL.keep {t:TypeId} {b:Nat} {cs:List Value} {W W':World} (h:BxL t b cs W) (e:W'.heap[b]?=W.heap[b]?):BxL t b cs W':=e.trans h
theorem BxL.bel {t:TypeId} {b:Nat} {cs:List Value} {W W':World} (h:BxL t b cs W) (hb:Below W.heap.size W W'):BxL t b cs W':=h.keep (hb.block b h.lt)
theorem BxL.al {t:TypeId} {b:Nat} {cs:List Value} {W:World} (h:BxL t b cs W) (o:Obj):BxL t b cs (W.alloc o):=h.bel (bA)
theorem BxL.at {t:TypeId} {b:Nat} {cs:List Value} {W:World} (h:BxL t b cs W) (i:Nat) {v:Value} (hv:cs[i]?=some v):W.cell? ⟨b,i,none⟩=some v:=by
 unfold BxL at h
 simp [World.cell?,h,hv]
theorem BxL.fr {t:TypeId} {b:Nat} {cs:List Value} {W:World} (h:BxL t b cs W) (i:Nat):W.frozen? ⟨b,i,none⟩=false:=by
 unfold BxL at h
 simp [World.frozen?,h]
abbrev inL (x:In) (av:Value):List Value:=[.int .u8 (x.kind:Int),.int .u8 (x.op:Int),.string ⟨x.dst.toArray⟩,.string ⟨x.nm.toArray⟩,av,.int .i64 x.pos.1,.int .i64 x.pos.2]
theorem wrap_next {k L:Nat} (h:k<L) (hL:L<=140737488355328):wrap64 ((k:Int)+1)=((k+1:Nat):Int):=by
 have:wrap64 ((k:Int)+1)=(k:Int)+1:=by unfold wrap64;omega
 rw [this];rfl
theorem meas_next {k L:Nat} (h:k<L) (hL:L<=140737488355328):L - (intOf (.int .i64 (wrap64 ((k:Int)+1)))).toNat<L - (intOf (.int .i64 (k:Int))).toNat:=by
 rw [wrap_next h hL];show L - ((k+1:Nat):Int).toNat<L - ((k:Nat):Int).toNat;omega
theorem BxL.set {t:TypeId} {b:Nat} {cs:List Value} {W:World} (h:BxL t b cs W) (i:Nat) (v:Value):BxL t b (cs.set i v) (W.setCell ⟨b,i,none⟩ v):=by
 unfold BxL at h ⊢
 simp only [World.setCell,Array.getElem?_modify]
 rw [h]
 simp
theorem heap_ot {W:World} {b i k:Nat} (h:k ≠ b) (v:Value):(W.setCell ⟨b,i,none⟩ v).heap[k]?=W.heap[k]?:=Below.heap_setCell _ _ _ _ h
theorem BxL.p2 {t:TypeId} {b:Nat} {a0 a1:Value} {r:List Value} {W:World} (h:BxL t b (a0 :: a1 :: r) W):W.cell? ⟨b,0,none⟩=some a0/\W.cell? ⟨b,1,none⟩=some a1:=⟨h.at 0 rfl,h.at 1 rfl⟩
theorem BxL.p3 {t:TypeId} {b:Nat} {a0 a1 a2:Value} {r:List Value} {W:World} (h:BxL t b (a0 :: a1 :: a2 :: r) W):W.cell? ⟨b,0,none⟩=some a0/\W.cell? ⟨b,1,none⟩=some a1/\W.cell? ⟨b,2,none⟩=some a2:=⟨h.at 0 rfl,h.at 1 rfl,h.at 2 rfl⟩
theorem BxL.p4 {t:TypeId} {b:Nat} {a0 a1 a2 a3:Value} {r:List Value} {W:World} (h:BxL t b (a0 :: a1 :: a2 :: a3 :: r) W):W.cell? ⟨b,0,none⟩=some a0/\W.cell? ⟨b,1,none⟩=some a1/\W.cell? ⟨b,2,none⟩=some a2/\W.cell? ⟨b,3,none⟩=some a3:=⟨h.at 0 rfl,h.at 1 rfl,h.at 2 rfl,h.at 3 rfl⟩
theorem BxL.p5 {t:TypeId} {b:Nat} {a0 a1 a2 a3 a4:Value} {r:List Value} {W:World} (h:BxL t b (a0 :: a1 :: a2 :: a3 :: a4 :: r) W):W.cell? ⟨b,0,none⟩=some a0/\W.cell? ⟨b,1,none⟩=some a1/\W.cell? ⟨b,2,none⟩=some a2/\W.cell? ⟨b,3,none⟩=some a3/\W.cell? ⟨b,4,none⟩=some a4:=⟨h.at 0 rfl,h.at 1 rfl,h.at 2 rfl,h.at 3 rfl,h.at 4 rfl⟩
theorem BxL.p6 {t:TypeId} {b:Nat} {a0 a1 a2 a3 a4 a5:Value} {r:List Value} {W:World} (h:BxL t b (a0 :: a1 :: a2 :: a3 :: a4 :: a5 :: r) W):W.cell? ⟨b,0,none⟩=some a0/\W.cell? ⟨b,1,none⟩=some a1/\W.cell? ⟨b,2,none⟩=some a2/\W.cell? ⟨b,3,none⟩=some a3/\W.cell? ⟨b,4,none⟩=some a4/\W.cell? ⟨b,5,none⟩=some a5:=⟨h.at 0 rfl,h.at 1 rfl,h.at 2 rfl,h.at 3 rfl,h.at 4 rfl,h.at 5 rfl⟩
theorem BxL.p7 {t:TypeId} {b:Nat} {a0 a1 a2 a3 a4 a5 a6:Value} {r:List Value} {W:World} (h:BxL t b (a0 :: a1 :: a2 :: a3 :: a4 :: a5 :: a6 :: r) W):W.cell? ⟨b,0,none⟩=some a0/\W.cell? ⟨b,1,none⟩=some a1/\W.cell? ⟨b,2,none⟩=some a2/\W.cell? ⟨b,3,none⟩=some a3/\W.cell? ⟨b,4,none⟩=some a4/\W.cell? ⟨b,5,none⟩=some a5/\W.cell? ⟨b,6,none⟩=some a6:=⟨h.at 0 rfl,h.at 1 rfl,h.at 2 rfl,h.at 3 rfl,h.at 4 rfl,h.at 5 rfl,h.at 6 rfl⟩
end Go.Proofs.YtoofbgoeipijcaaGreatDoor
