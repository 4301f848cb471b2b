/-
 A part.
-/
import Derived.Test.YtoofbgoeipijcaaGreatDoorVB8
namespace Go.Proofs.YtoofbgoeipijcaaGreatDoor
set_option maxRecDepth 100000
set_option maxHeartbeats 2000000
set_option linter.all false
open Go.RowKit Go.Shelf
attribute [local go_sem] Oper.semAt_some
abbrev posV (p:Int × Int):Value := .agg #[.int .i64 p.1,.int .i64 p.2]
def fltC (f:Flt):List PanicEntry:=[{ v := .iface 116 (.agg #[.int .i64 f.1.1,.int .i64 f.1.2,.int .i64 f.2]),recovered:=false }]
structure But (F:Nat->Prop) (w w':World):Prop where
 os:w'.os=w.os
 tape:w'.tape=w.tape
 output:w'.output=w.output
 size:w.heap.size<=w'.heap.size
 block:∀ k,k<w.heap.size->¬ F k->w'.heap[k]?=w.heap[k]?
theorem But.refl (F:Nat->Prop) (w:World):But F w w:=⟨rfl,rfl,rfl,Nat.le_refl _,fun _ _ _=>rfl⟩
theorem But.of_below {w w':World} (F:Nat->Prop) (h:Below w.heap.size w w'):But F w w':=⟨h.os,h.tape,h.output,h.size,fun k hk _=>h.block k hk⟩
theorem But.trans {F:Nat->Prop} {a b c:World} (h:But F a b) (k:But F b c):But F a c :=
 ⟨k.os.trans h.os,k.tape.trans h.tape,k.output.trans h.output,Nat.le_trans h.size k.size,fun i hi hF=>(k.block i (Nat.lt_of_lt_of_le hi h.size) hF).trans (h.block i hi hF)⟩
theorem But.below {F:Nat->Prop} {w w':World} {B:Nat} (h:But F w w') (hB:B<=w.heap.size) (hF:∀ k,F k->B<=k):Below B w w' :=
 ⟨h.os,h.tape,h.output,h.size,fun k hk=>h.block k (by omega) fun hf=>by have:=hF k hf;omega⟩
theorem But.mono {F G:Nat->Prop} {w w':World} (h:But F w w') (hFG:∀ k,F k->G k):But G w w':=⟨h.os,h.tape,h.output,h.size,fun k hk hg=>h.block k hk fun hf=>hg (hFG k hf)⟩
theorem But.of_grown {w w':World} {r:Nat} (h:w.grownBy w' (some r)):But (fun k=>k=r) w w':=⟨h.os,h.tape,h.output,h.size,fun k hk hF=>h.block k hk fun e=>by cases e;exact hF rfl⟩
def PrB (B:Nat) (w:World):Prop:=∃ w0,PrE0 w0/\w0.heap.size=B/\Below B w0 w
theorem PrB.e {B:Nat} {w:World} (h:PrB B w):PrE0 w:=by
 obtain ⟨w0,h0,rfl,hb⟩:=h
 exact h0.below hb
theorem PrB.step {B:Nat} {w w':World} (h:PrB B w) (hb:Below B w w'):PrB B w':=by
 obtain ⟨w0,h0,hs,hb0⟩:=h
 exact ⟨w0,h0,hs,hb0.trans hb⟩
theorem PrB.size {B:Nat} {w:World} (h:PrB B w):B<=w.heap.size:=by
 obtain ⟨w0,h0,rfl,hb⟩:=h
 exact hb.size
theorem PrE0.b {w:World} (h:PrE0 w):PrB w.heap.size w:=⟨w,h,rfl,Below.refl _ _⟩
theorem need_true (pos:Int × Int) (er:Int) (w:World):Calls Tryz.prog 118 #[.bool true,posV pos,.int .i64 er] w fun e w'=>e=.returned (.tuple #[])/\Below w.heap.size w w':=by
 unfold posV
 go_enter Tryz.func118,Tryz.ntmps118
 go_wp2
 go_end0
 exact ⟨rfl,bA⟩
theorem need_false (pos:Int × Int) (er:Int) (w:World):Calls Tryz.prog 118 #[.bool false,posV pos,.int .i64 er] w fun e w'=>e=.panicked (fltC (pos,er))/\Below w.heap.size w w':=by
 unfold posV
 go_enter Tryz.func118,Tryz.ntmps118
 go_wp2
 exact ⟨rfl,rfl,bA⟩
def DeclBad (f:Flt) (w:World) (e:Ending) (w':World):Prop:=e=.panicked (fltC f)/\Below w.heap.size w w'
def DeclOk (r:Nat) (l:List Bs) (w:World) (e:Ending) (w':World):Prop:=e=.returned (.tuple #[])/\NmS w' r l/\But (fun k=>k=r) w w'
theorem decl_bad (s:Bs) (pos:Int × Int) (r:Nat) (l:List Bs) (B:Nat) (w:World) (hE:PrB B w) (hm:NmS w r l) (hB:B<=r) (hn:namedB s=false) :
  Calls Tryz.prog 119 #[.map (some r),.string ⟨s.toArray⟩,posV pos] w (DeclBad (pos,4) w):=by
 have HE:=hid hE;have HM:=hid hm;have HBR:=hid hB
 have hrs:r<w.heap.size:=hm.lt
 have HRS:=hid hrs
 have HN:=hid hn
 clear hE hm hB hrs hn
 unfold posV
 go_enter Tryz.func119,Tryz.ntmps119
 go_wp2_with fail
 obtain ⟨w0,hw0⟩:∃ W,w.alloc (.cells #[.int .i64 pos.1,.int .i64 pos.2] 39)=W:=⟨_,rfl⟩
 have h0:w0.cell? ⟨w.heap.size,0,none⟩=some (.int .i64 pos.1):=by rw [<- hw0,cell_al];simp
 have h1:w0.cell? ⟨w.heap.size,1,none⟩=some (.int .i64 pos.2):=by rw [<- hw0,cell_al];simp
 have hb0:Below w.heap.size w w0:=by rw [<- hw0];exact bA
 rw [hw0]
 clear hw0
 have hb1:=hb0.drew
 have h0':w0.drew.cell? ⟨w.heap.size,0,none⟩=some (.int .i64 pos.1):=h0
 have h1':w0.drew.cell? ⟨w.heap.size,1,none⟩=some (.int .i64 pos.2):=h1
 clear h0 h1 hb0
 have hS:(fun W=>W.cell? ⟨w.heap.size,0,none⟩=some (.int .i64 pos.1)/\W.cell? ⟨w.heap.size,1,none⟩=some (.int .i64 pos.2)) w0.drew:=⟨h0',h1'⟩
 have HB1:=hid hb1
 clear hb1 h0' h1'
 have hFa:∀ f,Fence.wide.fn f:=fun _=>trivial
 refine (wpIn_wide (n:=9)).1 ?_
 refine wpIn_onlyP (fun c w'=>(DeclBad (pos,4) w) (.panicked c) w') (fun _ _ _ h=>h) ?_
 refine wpIn_region_HJ (fun W=>W.cell? ⟨w.heap.size,0,none⟩=some (.int .i64 pos.1)/\W.cell? ⟨w.heap.size,1,none⟩=some (.int .i64 pos.2)) 3 (by kernel_rfl) ?_
 simp only [zP,Nat.reduceAdd]
 refine wpHJ_pure (v:=?v0) 0 hFa rfl (by kernel_rfl) onlyP_put (Or.inl ⟨by rfl,?y0⟩) (.inr hS) ?r0
 case y0=>(intro w' _;go_simp;try rfl)
 simp only [aP]
 refine wpHJ_take (v:=?v1) 2 hFa rfl (by kernel_rfl) onlyP_put (Or.inl ⟨by rfl,?y1⟩) hS ?r1
 case y1=>(rintro w' ⟨s0,s1⟩;go_simp;try rfl)
 simp only [aP]
 refine oy 1 fun K hK=>?_
 go_simp
 (with_reducible refine (callsIn_wide.2 (named_any s w0.drew (HE.out.step (HB1.out.mono HE.out.size)).e)).mono ?_)
 rintro e w2 ⟨rfl,hb2⟩
 rw [HN.out]
 have hS2:(fun W=>W.cell? ⟨w.heap.size,0,none⟩=some (.int .i64 pos.1)/\W.cell? ⟨w.heap.size,1,none⟩=some (.int .i64 pos.2)) w2:=⟨cB hb2 hS.1,cB hb2 hS.2⟩
 have HB2:=hid (HB1.trans (hb2.mono HB1.size))
 clear hb2 hS
 refine hK _ _ (.inr (.inr hS2)) ?_
 clear hK K
 refine oy 3 fun K hK=>?_
 go_simp
 (with_reducible refine (callsIn_wide.2 (need_false pos 4 w2)).mono ?_)
 rintro e w3 ⟨rfl,hb3⟩
 exact ⟨rfl,rfl,HB2.trans (hb3.mono HB2.size)⟩
theorem decl_twice (s:Bs) (pos:Int × Int) (r:Nat) (l:List Bs) (B:Nat) (w:World) (hE:PrB B w) (hm:NmS w r l) (hB:B<=r) (hn:namedB s=true) (hc:l.contains s=true) :
  Calls Tryz.prog 119 #[.map (some r),.string ⟨s.toArray⟩,posV pos] w (DeclBad (pos,8) w):=by
 have HE:=hid hE;have HM:=hid hm;have HBR:=hid hB
 have hrs:r<w.heap.size:=hm.lt
 have HRS:=hid hrs
 have HN:=hid hn
 clear hE hm hB hrs hn
 unfold posV
 go_enter Tryz.func119,Tryz.ntmps119
 go_wp2_with fail
 obtain ⟨w0,hw0⟩:∃ W,w.alloc (.cells #[.int .i64 pos.1,.int .i64 pos.2] 39)=W:=⟨_,rfl⟩
 have h0:w0.cell? ⟨w.heap.size,0,none⟩=some (.int .i64 pos.1):=by rw [<- hw0,cell_al];simp
 have h1:w0.cell? ⟨w.heap.size,1,none⟩=some (.int .i64 pos.2):=by rw [<- hw0,cell_al];simp
 have hb0:Below w.heap.size w w0:=by rw [<- hw0];exact bA
 rw [hw0]
 clear hw0
 have hb1:=hb0.drew
 have h0':w0.drew.cell? ⟨w.heap.size,0,none⟩=some (.int .i64 pos.1):=h0
 have h1':w0.drew.cell? ⟨w.heap.size,1,none⟩=some (.int .i64 pos.2):=h1
 clear h0 h1 hb0
 have hS:(fun W=>W.cell? ⟨w.heap.size,0,none⟩=some (.int .i64 pos.1)/\W.cell? ⟨w.heap.size,1,none⟩=some (.int .i64 pos.2)) w0.drew:=⟨h0',h1'⟩
 have HB1:=hid hb1
 clear hb1 h0' h1'
 have hFa:∀ f,Fence.wide.fn f:=fun _=>trivial
 refine (wpIn_wide (n:=9)).1 ?_
 refine wpIn_onlyP (fun c w'=>(DeclBad (pos,8) w) (.panicked c) w') (fun _ _ _ h=>h) ?_
 refine wpIn_region_HJ (fun W=>W.cell? ⟨w.heap.size,0,none⟩=some (.int .i64 pos.1)/\W.cell? ⟨w.heap.size,1,none⟩=some (.int .i64 pos.2)) 3 (by kernel_rfl) ?_
 simp only [zP,Nat.reduceAdd]
 refine wpHJ_pure (v:=?v0) 0 hFa rfl (by kernel_rfl) onlyP_put (Or.inl ⟨by rfl,?y0⟩) (.inr hS) ?r0
 case y0=>(intro w' _;go_simp;try rfl)
 simp only [aP]
 refine wpHJ_take (v:=?v1) 2 hFa rfl (by kernel_rfl) onlyP_put (Or.inl ⟨by rfl,?y1⟩) hS ?r1
 case y1=>(rintro w' ⟨s0,s1⟩;go_simp;try rfl)
 simp only [aP]
 refine oy 1 fun K hK=>?_
 go_simp
 (with_reducible refine (callsIn_wide.2 (named_any s w0.drew (HE.out.step (HB1.out.mono HE.out.size)).e)).mono ?_)
 rintro e w2 ⟨rfl,hb2⟩
 rw [HN.out]
 have hS2:(fun W=>W.cell? ⟨w.heap.size,0,none⟩=some (.int .i64 pos.1)/\W.cell? ⟨w.heap.size,1,none⟩=some (.int .i64 pos.2)) w2:=⟨cB hb2 hS.1,cB hb2 hS.2⟩
 have HB2:=hid (HB1.trans (hb2.mono HB1.size))
 clear hb2 hS
 refine hK _ _ (.inr (.inr hS2)) ?_
 clear hK K
 refine oy 3 fun K hK=>?_
 go_simp
 (with_reducible refine (callsIn_wide.2 (need_true pos 4 w2)).mono ?_)
 rintro e w3 ⟨rfl,hb3⟩
 have HB3:=hid (HB2.trans (hb3.mono HB2.size))
 have g0:w3.cell? ⟨w.heap.size,0,none⟩=some (.int .i64 pos.1):=cB hb3 hS2.1
 have g1:w3.cell? ⟨w.heap.size,1,none⟩=some (.int .i64 pos.2):=cB hb3 hS2.2
 clear hb3 hS2
 refine hK _ _ (.inl rfl) (dN ?_)
 clear hK K
 simp only [onlyP,Exit.then]
 clear hFa
 have hm3:NmS w3 r l:=HM.keep (HB3.block r HRS.out)
 have HC:=hid hc
 clear hc
 go_wp2_with (first
  | (at_lookup;refine wpList_lookS rfl _ _ 119 rfl 9 4 Tryz.underlying119 Tryz.underlying9 (.bool false) (fun W=>by kernel_rfl) r (nmE l) s rfl hm3 rfl ?_;rw [nmE_get,HC.out])
  | (go_at_call 118;with_reducible refine (need_false pos 8 _).mono ?_;rintro e w4 ⟨rfl,hb4⟩;have HB4:=hid (HB3.out.trans (hb4.mono HB3.out.size));have hm4:=hm3.keep (hb4.block r hm3.lt);clear hb4 hm3))
 exact ⟨rfl,rfl,HB4.out⟩
theorem decl_ok (s:Bs) (pos:Int × Int) (r:Nat) (l:List Bs) (B:Nat) (w:World) (hE:PrB B w) (hm:NmS w r l) (hB:B<=r) (hn:namedB s=true) (hc:l.contains s=false) :
  Calls Tryz.prog 119 #[.map (some r),.string ⟨s.toArray⟩,posV pos] w (DeclOk r (l++[s]) w):=by
 have HE:=hid hE;have HM:=hid hm;have HBR:=hid hB
 have hrs:r<w.heap.size:=hm.lt
 have HRS:=hid hrs
 have HN:=hid hn
 clear hE hm hB hrs hn
 unfold posV
 go_enter Tryz.func119,Tryz.ntmps119
 go_wp2_with fail
 obtain ⟨w0,hw0⟩:∃ W,w.alloc (.cells #[.int .i64 pos.1,.int .i64 pos.2] 39)=W:=⟨_,rfl⟩
 have h0:w0.cell? ⟨w.heap.size,0,none⟩=some (.int .i64 pos.1):=by rw [<- hw0,cell_al];simp
 have h1:w0.cell? ⟨w.heap.size,1,none⟩=some (.int .i64 pos.2):=by rw [<- hw0,cell_al];simp
 have hb0:Below w.heap.size w w0:=by rw [<- hw0];exact bA
 rw [hw0]
 clear hw0
 have hb1:=hb0.drew
 have h0':w0.drew.cell? ⟨w.heap.size,0,none⟩=some (.int .i64 pos.1):=h0
 have h1':w0.drew.cell? ⟨w.heap.size,1,none⟩=some (.int .i64 pos.2):=h1
 clear h0 h1 hb0
 have hS:(fun W=>W.cell? ⟨w.heap.size,0,none⟩=some (.int .i64 pos.1)/\W.cell? ⟨w.heap.size,1,none⟩=some (.int .i64 pos.2)) w0.drew:=⟨h0',h1'⟩
 have HB1:=hid hb1
 clear hb1 h0' h1'
 have hFa:∀ f,Fence.wide.fn f:=fun _=>trivial
 refine (wpIn_wide (n:=9)).1 ?_
 refine wpIn_onlyP (fun c w'=>(DeclOk r (l++[s]) w) (.panicked c) w') (fun _ _ _ h=>h) ?_
 refine wpIn_region_HJ (fun W=>W.cell? ⟨w.heap.size,0,none⟩=some (.int .i64 pos.1)/\W.cell? ⟨w.heap.size,1,none⟩=some (.int .i64 pos.2)) 3 (by kernel_rfl) ?_
 simp only [zP,Nat.reduceAdd]
 refine wpHJ_pure (v:=?v0) 0 hFa rfl (by kernel_rfl) onlyP_put (Or.inl ⟨by rfl,?y0⟩) (.inr hS) ?r0
 case y0=>(intro w' _;go_simp;try rfl)
 simp only [aP]
 refine wpHJ_take (v:=?v1) 2 hFa rfl (by kernel_rfl) onlyP_put (Or.inl ⟨by rfl,?y1⟩) hS ?r1
 case y1=>(rintro w' ⟨s0,s1⟩;go_simp;try rfl)
 simp only [aP]
 refine oy 1 fun K hK=>?_
 go_simp
 (with_reducible refine (callsIn_wide.2 (named_any s w0.drew (HE.out.step (HB1.out.mono HE.out.size)).e)).mono ?_)
 rintro e w2 ⟨rfl,hb2⟩
 rw [HN.out]
 have hS2:(fun W=>W.cell? ⟨w.heap.size,0,none⟩=some (.int .i64 pos.1)/\W.cell? ⟨w.heap.size,1,none⟩=some (.int .i64 pos.2)) w2:=⟨cB hb2 hS.1,cB hb2 hS.2⟩
 have HB2:=hid (HB1.trans (hb2.mono HB1.size))
 clear hb2 hS
 refine hK _ _ (.inr (.inr hS2)) ?_
 clear hK K
 refine oy 3 fun K hK=>?_
 go_simp
 (with_reducible refine (callsIn_wide.2 (need_true pos 4 w2)).mono ?_)
 rintro e w3 ⟨rfl,hb3⟩
 have HB3:=hid (HB2.trans (hb3.mono HB2.size))
 have g0:w3.cell? ⟨w.heap.size,0,none⟩=some (.int .i64 pos.1):=cB hb3 hS2.1
 have g1:w3.cell? ⟨w.heap.size,1,none⟩=some (.int .i64 pos.2):=cB hb3 hS2.2
 clear hb3 hS2
 refine hK _ _ (.inl rfl) (dN ?_)
 clear hK K
 simp only [onlyP,Exit.then]
 clear hFa
 have hm3:NmS w3 r l:=HM.keep (HB3.block r HRS.out)
 have HC:=hid hc
 clear hc
 go_wp2_with (first
  | (at_lookup;refine wpList_lookS rfl _ _ 119 rfl 9 4 Tryz.underlying119 Tryz.underlying9 (.bool false) (fun W=>by kernel_rfl) r (nmE l) s rfl hm3 rfl ?_;rw [nmE_get,HC.out])
  | (go_at_call 118;with_reducible refine (need_true pos 8 _).mono ?_;rintro e w4 ⟨rfl,hb4⟩;have HB4:=hid (HB3.out.trans (hb4.mono HB3.out.size));have hm4:=hm3.keep (hb4.block r hm3.lt);clear hb4 hm3)
  | (at_mapUpdate;refine wpList_putS rfl _ _ _ 119 rfl 9 4 Tryz.underlying119 Tryz.underlying9 r (nmE l) s (.bool true) rfl hm4 rfl rfl ?_;intro w5 hm5 hg5;rw [nmE_put] at hm5))
 go_end0
 refine ⟨rfl,?_,(But.of_below _ HB4.out).trans ((But.of_grown hg5).mono fun k h=>h)⟩
 have e:addN l s=l++[s]:=by unfold addN;rw [HC.out];rfl
 rw [<- e];exact hm5
def BxL (t:TypeId) (b:Nat) (cs:List Value) (W:World):Prop:=W.heap[b]?=some (.cells cs.toArray t (0,0))
theorem BxL.new (t:TypeId) (W:World) (cs:List Value):BxL t W.heap.size cs (W.alloc (.cells cs.toArray t)):=by unfold BxL;rw [heap_al,if_pos rfl]
theorem BxL.lt {t:TypeId} {b:Nat} {cs:List Value} {W:World} (h:BxL t b cs W):b<W.heap.size:=(Array.getElem?_eq_some_iff.1 h).1
theorem BxL.keep {t:TypeId} {b:Nat} {cs:List Value} {W W':World} (h:BxL t b cs W) (e:W'.heap[b]?=W.heap[b]?):BxL t b cs W':=e.trans h
theorem BxL.bel {t:TypeId} {b:Nat} {cs:List Value} {W W':World} (h:BxL t b cs W) (hb:Below W.heap.size W W'):BxL t b cs W':=h.keep (hb.block b h.lt)
theorem BxL.al {t:TypeId} {b:Nat} {cs:List Value} {W:World} (h:BxL t b cs W) (o:Obj):BxL t b cs (W.alloc o):=h.bel (bA)
theorem BxL.at {t:TypeId} {b:Nat} {cs:List Value} {W:World} (h:BxL t b cs W) (i:Nat) {v:Value} (hv:cs[i]?=some v):W.cell? ⟨b,i,none⟩=some v:=by
 unfold BxL at h
 simp [World.cell?,h,hv]
theorem BxL.fr {t:TypeId} {b:Nat} {cs:List Value} {W:World} (h:BxL t b cs W) (i:Nat):W.frozen? ⟨b,i,none⟩=false:=by
 unfold BxL at h
 simp [World.frozen?,h]
abbrev inL (x:In) (av:Value):List Value:=[.int .u8 (x.kind:Int),.int .u8 (x.op:Int),.string ⟨x.dst.toArray⟩,.string ⟨x.nm.toArray⟩,av,.int .i64 x.pos.1,.int .i64 x.pos.2]
theorem wrap_next {k L:Nat} (h:k<L) (hL:L<=140737488355328):wrap64 ((k:Int)+1)=((k+1:Nat):Int):=by
 have:wrap64 ((k:Int)+1)=(k:Int)+1:=by unfold wrap64;omega
 rw [this];rfl
theorem meas_next {k L:Nat} (h:k<L) (hL:L<=140737488355328):L - (intOf (.int .i64 (wrap64 ((k:Int)+1)))).toNat<L - (intOf (.int .i64 (k:Int))).toNat:=by
 rw [wrap_next h hL];show L - ((k+1:Nat):Int).toNat<L - ((k:Nat):Int).toNat;omega
theorem BxL.set {t:TypeId} {b:Nat} {cs:List Value} {W:World} (h:BxL t b cs W) (i:Nat) (v:Value):BxL t b (cs.set i v) (W.setCell ⟨b,i,none⟩ v):=by
 unfold BxL at h ⊢
 simp only [World.setCell,Array.getElem?_modify]
 rw [h]
 simp
theorem heap_ot {W:World} {b i k:Nat} (h:k ≠ b) (v:Value):(W.setCell ⟨b,i,none⟩ v).heap[k]?=W.heap[k]?:=Below.heap_setCell _ _ _ _ h
theorem BxL.p2 {t:TypeId} {b:Nat} {a0 a1:Value} {r:List Value} {W:World} (h:BxL t b (a0 :: a1 :: r) W):W.cell? ⟨b,0,none⟩=some a0/\W.cell? ⟨b,1,none⟩=some a1:=⟨h.at 0 rfl,h.at 1 rfl⟩
theorem BxL.p3 {t:TypeId} {b:Nat} {a0 a1 a2:Value} {r:List Value} {W:World} (h:BxL t b (a0 :: a1 :: a2 :: r) W):W.cell? ⟨b,0,none⟩=some a0/\W.cell? ⟨b,1,none⟩=some a1/\W.cell? ⟨b,2,none⟩=some a2:=⟨h.at 0 rfl,h.at 1 rfl,h.at 2 rfl⟩
theorem BxL.p4 {t:TypeId} {b:Nat} {a0 a1 a2 a3:Value} {r:List Value} {W:World} (h:BxL t b (a0 :: a1 :: a2 :: a3 :: r) W):W.cell? ⟨b,0,none⟩=some a0/\W.cell? ⟨b,1,none⟩=some a1/\W.cell? ⟨b,2,none⟩=some a2/\W.cell? ⟨b,3,none⟩=some a3:=⟨h.at 0 rfl,h.at 1 rfl,h.at 2 rfl,h.at 3 rfl⟩
theorem BxL.p5 {t:TypeId} {b:Nat} {a0 a1 a2 a3 a4:Value} {r:List Value} {W:World} (h:BxL t b (a0 :: a1 :: a2 :: a3 :: a4 :: r) W):W.cell? ⟨b,0,none⟩=some a0/\W.cell? ⟨b,1,none⟩=some a1/\W.cell? ⟨b,2,none⟩=some a2/\W.cell? ⟨b,3,none⟩=some a3/\W.cell? ⟨b,4,none⟩=some a4:=⟨h.at 0 rfl,h.at 1 rfl,h.at 2 rfl,h.at 3 rfl,h.at 4 rfl⟩
theorem BxL.p6 {t:TypeId} {b:Nat} {a0 a1 a2 a3 a4 a5:Value} {r:List Value} {W:World} (h:BxL t b (a0 :: a1 :: a2 :: a3 :: a4 :: a5 :: r) W):W.cell? ⟨b,0,none⟩=some a0/\W.cell? ⟨b,1,none⟩=some a1/\W.cell? ⟨b,2,none⟩=some a2/\W.cell? ⟨b,3,none⟩=some a3/\W.cell? ⟨b,4,none⟩=some a4/\W.cell? ⟨b,5,none⟩=some a5:=⟨h.at 0 rfl,h.at 1 rfl,h.at 2 rfl,h.at 3 rfl,h.at 4 rfl,h.at 5 rfl⟩
theorem BxL.p7 {t:TypeId} {b:Nat} {a0 a1 a2 a3 a4 a5 a6:Value} {r:List Value} {W:World} (h:BxL t b (a0 :: a1 :: a2 :: a3 :: a4 :: a5 :: a6 :: r) W):W.cell? ⟨b,0,none⟩=some a0/\W.cell? ⟨b,1,none⟩=some a1/\W.cell? ⟨b,2,none⟩=some a2/\W.cell? ⟨b,3,none⟩=some a3/\W.cell? ⟨b,4,none⟩=some a4/\W.cell? ⟨b,5,none⟩=some a5/\W.cell? ⟨b,6,none⟩=some a6:=⟨h.at 0 rfl,h.at 1 rfl,h.at 2 rfl,h.at 3 rfl,h.at 4 rfl,h.at 5 rfl,h.at 6 rfl⟩
def Moved (w:World) (v v':Value):Prop:=v'.ownBlock=v.ownBlock\/∃ k,v'.ownBlock=some k/\w.heap.size<=k
theorem Moved.refl (w:World) (v:Value):Moved w v v := .inl rfl
theorem Moved.trans {w w':World} {a b c:Value} (h:Moved w a b) (hs:w.heap.size<=w'.heap.size) (k:Moved w' b c):Moved w a c:=by
 rcases k with k | ⟨j,k,hj⟩
 ·rcases h with h | ⟨i,h,hi⟩
  ·exact .inl (k.trans h)
  ·exact .inr ⟨i,k.trans h,hi⟩
 ·exact .inr ⟨j,k,by omega⟩
section
variable {P:Program}
theorem wpList_push {α:Type} {K:EK α} {B:Nat} {w:World} {v:Value} {l:List α} {x:α} {cs:List Value} {te:TypeId} {ops:Array Oper} {rest:List Oper} {o:Oper} {a:Act} {Q:Exit->Act->World->Prop}
  (hgd:o.guard=none) (s y:Operand) (t:TypeId) (ho:o.op=.call { callee := .builtin .append,args:=#[s,y],argTypes:=#[t,t] }) (ht:P.underlying t=some (.slice te))
  (z:Value) (bytes:Nat) (hinfo:(P.info? te).map (fun i=>(i.zero,i.size,i.bytes))=some (some z,K.n,bytes)) (hzs:z.cells.size=K.n)
  (h:GA K B te w v l) (hx:K.E (fun k=>k<w.heap.size/\v.ownBlock ≠ some k) w cs x) (hs:a.eval s=v) (hy:a.eval y=.slice (some ⟨w.heap.size,0,none⟩) 1 1)
  (hl:(l.length+1)*bytes<=140737488355328) (h63:l.length+1<=maxLen) (hB:B<=w.heap.size)
  (hK:∀ v' w',GA K B te w' v' (l++[x])->(w.alloc (.cells cs.toArray te)).grownBy w' v.ownBlock->Moved w v v'->wpList P ops Q rest (a.put o.dst v') w') :
  wpList P ops Q (o :: rest) a (w.alloc (.cells cs.toArray te)):=by
 obtain ⟨css,h1,h2⟩:=h.row
 refine wpList_appG (R:=fun _=>True) _ hgd s y t ho B te z K.n bytes ht hinfo hzs K.pos v l.length css.flatten hs (h2.alloc _) ⟨w.heap.size,0,none⟩ 1 1 cs hy (by rw [K.len hx];omega) (RowR.lit w cs te trivial) (K.one hx) hl h63 (by rw [sA];omega) ?_
 intro v' w' ho' hg hv
 refine hK v' w' ?_ hg ?_
 ·exact GA.push h1 (fun k hk=>(h2.lt k hk).2) hx hg ho' hv
 ·rcases hv with e | e
  ·exact .inl e
  ·exact .inr ⟨_,e,by rw [sA];omega⟩
end
theorem GA.below {α:Type} {K:EK α} {B e:Nat} {w w':World} {v:Value} {l:List α} (h:GA K B e w v l) {o:Obj} (hb:Below B w w) (hg:(w.alloc o).grownBy w' v.ownBlock) (hB:B<=w.heap.size):Below B w w':=by
 refine ⟨hg.os,hg.tape,hg.output,Nat.le_trans (by rw [sA];omega) hg.size,fun k hk=>?_⟩
 rw [hg.block k (by rw [sA];omega) (fun e=>by have:=(h.lt k e.symm).1;omega),heap_al,if_neg (by omega)]
theorem below_push {α:Type} {K:EK α} {B e:Nat} {w0 w w':World} {v:Value} {l:List α} (h:GA K B e w v l) {o:Obj} (hb:Below B w0 w) (hg:(w.alloc o).grownBy w' v.ownBlock) (hB:B<=w.heap.size):Below B w0 w' :=
 hb.trans (h.below (Below.refl _ _) hg hB)
structure CK where
 cb:Nat
 mc:Nat
 ma:Nat
 ms:Nat
 mp:Nat
 a:Value
 b:Value
 c:Value
 d:Value
 p:Pg
structure CS where
 chans:List Bs
 arrays:List Bs
 sites:List Bs
 params:List (Bs × Nat)
 labels:List (List Bs)
def kMap:EK Nat where
 n:=1
 pos:=by omega
 E _ _ cs r:=cs=[.map (some r)]
 len h:=by rw [h];rfl
 one h:=by subst h;intro u hu;rw [List.mem_singleton] at hu;subst hu;rfl
 keep h _:=h
abbrev ckL (K:CK) (vl:Value):List Value:=[.int .i64 K.p.width,K.a,K.b,K.c,K.d,.map (some K.mc),.map (some K.ma),.map (some K.ms),.map (some K.mp),vl]
structure Ck (B:Nat) (w:World) (K:CK) (vl:Value) (rs:List Nat) (S:CS):Prop where
 box:BxL 123 K.cb (ckL K vl) w
 pg:PgV (·<B) w K.a K.b K.c K.d K.p
 size:B<=w.heap.size
 ch:NmS w K.mc S.chans
 ar:NmS w K.ma S.arrays
 st:NmS w K.ms S.sites
 pm:CtS w K.mp S.params
 lb:GA kMap B 119 w vl rs
 rl:rs.length=S.labels.length
 lm:∀ i (h:i<S.labels.length) (h':i<rs.length),NmS w rs[i] S.labels[i]
 ge:B<=K.cb/\B<=K.mc/\B<=K.ma/\B<=K.ms/\B<=K.mp
 gr:∀ r ∈ rs,B<=r
 ne:K.mc ≠ K.ma/\K.mc ≠ K.ms/\K.mc ≠ K.mp/\K.ma ≠ K.ms/\K.ma ≠ K.mp/\K.ms ≠ K.mp
 nr:∀ r ∈ rs,r ≠ K.mc/\r ≠ K.ma/\r ≠ K.ms/\r ≠ K.mp
 own:vl.ownBlock ≠ some K.cb
def Off (B:Nat) (K:CK) (vl:Value) (rs:List Nat) (k:Nat):Prop:=B<=k/\k ≠ K.cb/\k ≠ K.mc/\k ≠ K.ma/\k ≠ K.ms/\k ≠ K.mp/\vl.ownBlock ≠ some k/\k ∉ rs
theorem MapS.not_cells {w:World} {r:Nat} {d:List Ent} (h:MapS w r d) {t:TypeId} {cs:List Value} (hc:BxL t r cs w):False:=by
 obtain ⟨es,clk,h1,_⟩:=h
 unfold BxL at hc
 rw [h1] at hc
 injection hc with hc
 cases hc
theorem GA.not_map {α:Type} {K:EK α} {B e:Nat} {w:World} {v:Value} {l:List α} (h:GA K B e w v l) {r:Nat} {d:List Ent} (hm:MapS w r d):v.ownBlock ≠ some r:=by
 obtain ⟨css,_,h2⟩:=h.row
 intro hv
 obtain ⟨_,h3⟩:=h2
 rcases h3 with ⟨rfl,_⟩ | ⟨g,cap,cur,rfl,hb,hg,_⟩
 ·cases hv
 ·cases hv
  obtain ⟨es,clk,h1,_⟩:=hm
  rw [h1] at hg
  injection hg with hg
  cases hg
theorem PgV.stay {B:Nat} {w w':World} {a b c d:Value} {p:Pg} (h:PgV (·<B) w a b c d p) (hf:∀ k,k<B->w'.heap[k]?=w.heap[k]?):PgV (·<B) w' a b c d p:=h.keep fun k hk=>⟨hk,hf k hk⟩
theorem GA.keepB {α:Type} {K:EK α} {B e:Nat} {w w':World} {v:Value} {l:List α} (h:GA K B e w v l) (hs:w.heap.size<=w'.heap.size) (hf:∀ k,(∀ (R:Nat->Prop),True)->k<w.heap.size->w'.heap[k]?=w.heap[k]?):GA K B e w' v l:=by
 obtain ⟨css,h1,h2⟩:=h.row
 exact ⟨⟨css,h1.keep fun k hk=>⟨⟨Nat.lt_of_lt_of_le hk.1 hs,hk.2⟩,hf k (fun _=>trivial) hk.1⟩,owns_keepG h2 fun j hj=>hf j (fun _=>trivial) (h2.lt j hj).2⟩⟩
theorem lb_keep {B e:Nat} {w w':World} {v:Value} {l:List Nat} (h:GA kMap B e w v l) (hs:w.heap.size<=w'.heap.size) (hf:∀ j,v.ownBlock=some j->w'.heap[j]?=w.heap[j]?):GA kMap B e w' v l:=by
 obtain ⟨css,h1,h2⟩:=h.row
 refine ⟨⟨css,⟨h1.1,fun i hi hi'=>?_⟩,owns_keepG h2 hf⟩⟩
 exact h1.2 i hi hi'
theorem Ck.but {B:Nat} {w w':World} {K:CK} {vl:Value} {rs:List Nat} {S:CS} {F:Nat->Prop} (h:Ck B w K vl rs S) (hb:But F w w') (hF:∀ k,F k->Off B K vl rs k):Ck B w' K vl rs S:=by
 have hn:∀ k,k<w.heap.size->¬ Off B K vl rs k->w'.heap[k]?=w.heap[k]?:=fun k hk hA=>hb.block k hk fun hf=>hA (hF k hf)
 refine ⟨h.box.keep (hn _ h.box.lt fun a=>a.2.1 rfl),h.pg.stay fun k hk=>hn k (Nat.lt_of_lt_of_le hk h.size) (fun a=>by have:=a.1;omega),Nat.le_trans h.size hb.size,
  h.ch.keep (hn _ h.ch.lt fun a=>a.2.2.1 rfl),h.ar.keep (hn _ h.ar.lt fun a=>a.2.2.2.1 rfl),h.st.keep (hn _ h.st.lt fun a=>a.2.2.2.2.1 rfl),h.pm.keep (hn _ h.pm.lt fun a=>a.2.2.2.2.2.1 rfl),
  lb_keep h.lb hb.size (fun j hj=>hn j (h.lb.lt j hj).2 fun a=>a.2.2.2.2.2.2.1 hj),h.rl,fun i hi hi'=>(h.lm i hi hi').keep (hn _ (h.lm i hi hi').lt fun a=>a.2.2.2.2.2.2.2 (List.getElem_mem hi')),h.ge,h.gr,h.ne,h.nr,h.own⟩
theorem Ck.below {B:Nat} {w w':World} {K:CK} {vl:Value} {rs:List Nat} {S:CS} (h:Ck B w K vl rs S) (hb:Below w.heap.size w w'):Ck B w' K vl rs S:=h.but (But.of_below (fun _=>False) hb) fun _ h=>h.elim
theorem Ck.apart {B:Nat} {w:World} {K:CK} {vl:Value} {rs:List Nat} {S:CS} (h:Ck B w K vl rs S) {k:Nat} (hk:w.heap.size<=k):Off B K vl rs k:=by
 have h1:=h.box.lt;have h2:=h.ch.lt;have h3:=h.ar.lt;have h4:=h.st.lt;have h5:=h.pm.lt;have h6:=h.size
 refine ⟨by omega,by omega,by omega,by omega,by omega,by omega,fun e=>by have:=(h.lb.lt k e).2;omega,fun hm=>?_⟩
 obtain ⟨i,hi,rfl⟩:=List.getElem_of_mem hm
 have:=(h.lm i (by rw [<- h.rl];exact hi) hi).lt
 omega
theorem Ck.setCh {B:Nat} {w w':World} {K:CK} {vl:Value} {rs:List Nat} {S:CS} (h:Ck B w K vl rs S) (hb:But (fun k=>k=K.mc) w w') {l:List Bs} (hm:NmS w' K.mc l):Ck B w' K vl rs { S with chans:=l }:=by
 have hn:∀ k,k<w.heap.size->k ≠ K.mc->w'.heap[k]?=w.heap[k]?:=fun k hk hne=>hb.block k hk hne
 have hbx:K.cb ≠ K.mc:=fun e=>MapS.not_cells h.ch (e ▸ h.box)
 have hge:=h.ge
 have hne:=h.ne
 refine ⟨h.box.keep (hn _ h.box.lt hbx),h.pg.stay fun k hk=>hn k (Nat.lt_of_lt_of_le hk h.size) (by omega),Nat.le_trans h.size hb.size,hm,h.ar.keep (hn _ h.ar.lt (Ne.symm hne.1)),h.st.keep (hn _ h.st.lt (Ne.symm hne.2.1)),h.pm.keep (hn _ h.pm.lt (Ne.symm hne.2.2.1)),
  lb_keep h.lb hb.size (fun j hj=>hn j (h.lb.lt j hj).2 fun e=>h.lb.not_map h.ch (e ▸ hj)),h.rl,fun i hi hi'=>(h.lm i hi hi').keep (hn _ (h.lm i hi hi').lt (h.nr _ (List.getElem_mem hi')).1),h.ge,h.gr,h.ne,h.nr,h.own⟩
theorem Ck.setAr {B:Nat} {w w':World} {K:CK} {vl:Value} {rs:List Nat} {S:CS} (h:Ck B w K vl rs S) (hb:But (fun k=>k=K.ma) w w') {l:List Bs} (hm:NmS w' K.ma l):Ck B w' K vl rs { S with arrays:=l }:=by
 have hn:∀ k,k<w.heap.size->k ≠ K.ma->w'.heap[k]?=w.heap[k]?:=fun k hk hne=>hb.block k hk hne
 have hbx:K.cb ≠ K.ma:=fun e=>MapS.not_cells h.ar (e ▸ h.box)
 have hge:=h.ge
 have hne:=h.ne
 refine ⟨h.box.keep (hn _ h.box.lt hbx),h.pg.stay fun k hk=>hn k (Nat.lt_of_lt_of_le hk h.size) (by omega),Nat.le_trans h.size hb.size,h.ch.keep (hn _ h.ch.lt hne.1),hm,h.st.keep (hn _ h.st.lt (Ne.symm hne.2.2.2.1)),h.pm.keep (hn _ h.pm.lt (Ne.symm hne.2.2.2.2.1)),
  lb_keep h.lb hb.size (fun j hj=>hn j (h.lb.lt j hj).2 fun e=>h.lb.not_map h.ar (e ▸ hj)),h.rl,fun i hi hi'=>(h.lm i hi hi').keep (hn _ (h.lm i hi hi').lt (h.nr _ (List.getElem_mem hi')).2.1),h.ge,h.gr,h.ne,h.nr,h.own⟩
theorem Ck.setSt {B:Nat} {w w':World} {K:CK} {vl:Value} {rs:List Nat} {S:CS} (h:Ck B w K vl rs S) (hb:But (fun k=>k=K.ms) w w') {l:List Bs} (hm:NmS w' K.ms l):Ck B w' K vl rs { S with sites:=l }:=by
 have hn:∀ k,k<w.heap.size->k ≠ K.ms->w'.heap[k]?=w.heap[k]?:=fun k hk hne=>hb.block k hk hne
 have hbx:K.cb ≠ K.ms:=fun e=>MapS.not_cells h.st (e ▸ h.box)
 have hge:=h.ge
 have hne:=h.ne
 refine ⟨h.box.keep (hn _ h.box.lt hbx),h.pg.stay fun k hk=>hn k (Nat.lt_of_lt_of_le hk h.size) (by omega),Nat.le_trans h.size hb.size,h.ch.keep (hn _ h.ch.lt hne.2.1),h.ar.keep (hn _ h.ar.lt hne.2.2.2.1),hm,h.pm.keep (hn _ h.pm.lt (Ne.symm hne.2.2.2.2.2)),
  lb_keep h.lb hb.size (fun j hj=>hn j (h.lb.lt j hj).2 fun e=>h.lb.not_map h.st (e ▸ hj)),h.rl,fun i hi hi'=>(h.lm i hi hi').keep (hn _ (h.lm i hi hi').lt (h.nr _ (List.getElem_mem hi')).2.2.1),h.ge,h.gr,h.ne,h.nr,h.own⟩
theorem Ck.setPm {B:Nat} {w w':World} {K:CK} {vl:Value} {rs:List Nat} {S:CS} (h:Ck B w K vl rs S) (hb:But (fun k=>k=K.mp) w w') {l:List (Bs × Nat)} (hm:CtS w' K.mp l):Ck B w' K vl rs { S with params:=l }:=by
 have hn:∀ k,k<w.heap.size->k ≠ K.mp->w'.heap[k]?=w.heap[k]?:=fun k hk hne=>hb.block k hk hne
 have hbx:K.cb ≠ K.mp:=fun e=>MapS.not_cells h.pm (e ▸ h.box)
 have hge:=h.ge
 have hne:=h.ne
 refine ⟨h.box.keep (hn _ h.box.lt hbx),h.pg.stay fun k hk=>hn k (Nat.lt_of_lt_of_le hk h.size) (by omega),Nat.le_trans h.size hb.size,h.ch.keep (hn _ h.ch.lt hne.2.2.1),h.ar.keep (hn _ h.ar.lt hne.2.2.2.2.1),h.st.keep (hn _ h.st.lt hne.2.2.2.2.2),hm,
  lb_keep h.lb hb.size (fun j hj=>hn j (h.lb.lt j hj).2 fun e=>h.lb.not_map h.pm (e ▸ hj)),h.rl,fun i hi hi'=>(h.lm i hi hi').keep (hn _ (h.lm i hi hi').lt (h.nr _ (List.getElem_mem hi')).2.2.2),h.ge,h.gr,h.ne,h.nr,h.own⟩
theorem Ck.push {B:Nat} {w w5:World} {K:CK} {vl v5:Value} {rs:List Nat} {S:CS} {r:Nat} {l:List Bs} {o:Obj} (h:Ck B w K vl rs S) (hr:NmS w r l) (ho:Off B K vl rs r) (hg:(w.alloc o).grownBy w5 vl.ownBlock) (h5:GA kMap B 119 w5 v5 (rs++[r])) (hm:Moved w vl v5) :
  Ck B (w5.setCell ⟨K.cb,9,none⟩ v5) K v5 (rs++[r]) { S with labels:=S.labels++[l] }/\But (fun k=>k=K.cb\/vl.ownBlock=some k) w (w5.setCell ⟨K.cb,9,none⟩ v5):=by
 have hb5:∀ k,k<w.heap.size->vl.ownBlock ≠ some k->w5.heap[k]?=w.heap[k]?:=fun k hk hne=>by
  rw [hg.block k (by rw [sA];omega) (fun e=>hne e.symm),heap_al,if_neg (by omega)]
 have hb:∀ k,k<w.heap.size->vl.ownBlock ≠ some k->k ≠ K.cb->(w5.setCell ⟨K.cb,9,none⟩ v5).heap[k]?=w.heap[k]?:=fun k hk hne hc=>by
  rw [heap_ot hc,hb5 k hk hne]
 have hs5:=hg.size
 rw [sA] at hs5
 have hs:w.heap.size<=(w5.setCell ⟨K.cb,9,none⟩ v5).heap.size:=by simp [World.setCell];omega
 have hnm:∀ {q:Nat} {d:List Ent},MapS w q d->(w5.setCell ⟨K.cb,9,none⟩ v5).heap[q]?=w.heap[q]?:=fun {q d} hq =>
  hb q hq.lt (h.lb.not_map hq) fun e=>MapS.not_cells hq (e ▸ h.box)
 have hown:v5.ownBlock ≠ some K.cb:=fun e=>by
  rcases hm with e' | ⟨k,e',hk⟩
  ·exact h.own (e'.symm.trans e)
  ·rw [e'] at e;injection e with e;have:=h.box.lt;omega
 refine ⟨⟨?_,?_,Nat.le_trans h.size hs,h.ch.keep (hnm h.ch),h.ar.keep (hnm h.ar),h.st.keep (hnm h.st),h.pm.keep (hnm h.pm),?_,?_,?_,h.ge,?_,h.ne,?_,hown⟩,⟨hg.os,hg.tape,hg.output,hs,fun k hk hF=>hb k hk (fun e=>hF (.inr e)) fun e=>hF (.inl e)⟩⟩
 ·have h1:BxL 123 K.cb (ckL K vl) w5:=h.box.keep (hb5 _ h.box.lt h.own)
  exact h1.set 9 v5
 ·refine h.pg.stay fun k hk=>?_
  have hge:=h.ge
  refine hb k (Nat.lt_of_lt_of_le hk h.size) (fun e=>?_) (by omega)
  have:=(h.lb.lt k e).1;omega
 ·exact lb_keep h5 (by simp [World.setCell]) fun j hj=>heap_ot (fun e=>hown (by rw [<- e];exact hj)) _
 ·rw [List.length_append,List.length_append,h.rl];rfl
 ·intro i hi hi'
  by_cases hlt:i<S.labels.length
  ·rw [List.getElem_append_left (by rw [h.rl];exact hlt),List.getElem_append_left hlt]
   exact (h.lm i hlt (by rw [h.rl];exact hlt)).keep (hnm (h.lm i hlt (by rw [h.rl];exact hlt)))
  ·have:i=S.labels.length:=by simp at hi;omega
   subst this
   rw [List.getElem_append_right (by rw [h.rl];omega),List.getElem_append_right (by omega)]
   simp only [h.rl,Nat.sub_self,List.getElem_cons_zero]
   exact hr.keep (hnm hr)
 ·intro q hq
  rcases List.mem_append.1 hq with hq | hq
  ·exact h.gr q hq
  ·rw [List.mem_singleton.1 hq];exact ho.1
 ·intro q hq
  rcases List.mem_append.1 hq with hq | hq
  ·exact h.nr q hq
  ·rw [List.mem_singleton.1 hq];exact ⟨ho.2.2.1,ho.2.2.2.1,ho.2.2.2.2.1,ho.2.2.2.2.2.1⟩
end Go.Proofs.YtoofbgoeipijcaaGreatDoor
