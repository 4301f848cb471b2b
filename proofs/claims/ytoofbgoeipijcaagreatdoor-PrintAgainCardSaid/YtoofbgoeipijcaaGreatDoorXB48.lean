/-
 The kit: CopyInstr.
-/
import Derived.Laws.OwnMore
import Derived.Deep.Slices
import Derived.Test.YtoofbgoeipijcaaGreatDoorXSPnQ
import Derived.Test.YtoofbgoeipijcaaGreatDoorXSPeS
import Derived.Test.YtoofbgoeipijcaaGreatDoorXSPqW
import Derived.Test.YtoofbgoeipijcaaGreatDoorXB31
import Derived.JoinedOf
import Derived.KernelRfl
import Derived.HandedShaped
import Derived.LaidMore
import Derived.Stop.Joined
import Derived.Stop.LaidErr
import Derived.Deep.Strs
import Derived.MakeChecks
namespace Go.Proofs.YtoofbgoeipijcaaGreatDoor
set_option linter.unusedSimpArgs false
set_option linter.unusedVariables false
open Go.RowKit Go.Shelf
attribute [local go_sem] Oper.semAt_some
structure GF {α:Type} (K:EK α) (B e:Nat) (w:World) (v:Value) (l:List α):Prop where
 row:∃ css,Each K (fun k=>B<=k/\k<w.heap.size/\v.ownBlock ≠ some k) w css l/\w.ownsRow B e K.n v l.length css.flatten
section
variable {α:Type} {K:EK α} {B B' e:Nat} {w w':World} {v v':Value} {l:List α}
theorem Each.weaken {R R':Nat->Prop} {css:List (List Value)} (h:Each K R w css l) (hf:∀ k,R k->R' k):Each K R' w css l:=h.keep fun k hk=>⟨hf k hk,rfl⟩
theorem GF.nil (K:EK α) (B e:Nat) (w:World):GF K B e w (.slice none 0 0) []:=⟨⟨[],Each.nil,World.ownsRow_nil _ _ _ _⟩⟩
theorem GF.ga (h:GF K B e w v l):GA K B e w v l:=let ⟨css,h1,h2⟩:=h.row;⟨⟨css,h1.weaken fun k hk=>hk.2,h2⟩⟩
theorem GF.slc (h:GF K B e w v l):∃ p c,v = .slice p l.length c:=h.ga.slc
theorem GF.lt (h:GF K B e w v l):∀ k,v.ownBlock=some k->B<=k/\k<w.heap.size:=h.ga.lt
theorem GF.base (h:GF K B e w v l) (hB:B'<=B):GF K B' e w v l:=by
 obtain ⟨css,h1,h2⟩:=h.row
 refine ⟨⟨css,h1.weaken fun k hk=>⟨Nat.le_trans hB hk.1,hk.2⟩,h2.1,?_⟩⟩
 rcases h2.2 with h | ⟨g,cap,cur,h3,hb,h4⟩
 ·exact .inl h
 ·exact .inr ⟨g,cap,cur,h3,Nat.le_trans hB hb,h4⟩
theorem GF.keepB (h:GF K B e w v l) (hs:w.heap.size<=w'.heap.size) (hf:∀ k,B<=k->k<w.heap.size->w'.heap[k]?=w.heap[k]?):GF K B e w' v l:=by
 obtain ⟨css,h1,h2⟩:=h.row
 exact ⟨⟨css,h1.keep fun k hk=>⟨⟨hk.1,Nat.lt_of_lt_of_le hk.2.1 hs,hk.2.2⟩,hf k hk.1 hk.2.1⟩,owns_keepG h2 fun j hj=>hf j (h2.lt j hj).1 (h2.lt j hj).2⟩⟩
theorem GF.keep (h:GF K B e w v l) (hb:Below w.heap.size w w'):GF K B e w' v l:=h.keepB hb.size fun k _ hk=>hb.block k hk
theorem GF.sl (h:GF K B e w v l) (hl:l.length<=140737488355328):SlG K (fun k=>B<=k/\k<w.heap.size) w v l:=by
 obtain ⟨css,h1,h2⟩:=h.row
 exact SlG.ofOwn (h1.weaken fun k hk=>⟨hk.1,hk.2.1⟩) h2 hl fun k hk=>h2.lt k hk
theorem GF.push {x:α} {css:List (List Value)} {cs:List Value} {o:Obj} (h:Each K (fun k=>B<=k/\k<w.heap.size/\v.ownBlock ≠ some k) w css l) (hl:∀ k,v.ownBlock=some k->k<w.heap.size)
  (hx:K.E (fun k=>B<=k/\k<w.heap.size/\v.ownBlock ≠ some k) w cs x) (hg:(w.alloc o).grownBy w' v.ownBlock) (ho:w'.ownsRow B e K.n v' (l.length+1) (css.flatten++cs)) (hv:v'.ownBlock=v.ownBlock\/v'.ownBlock=some (w.alloc o).heap.size):GF K B e w' v' (l++[x]):=by
 have hga:=(World.grownBy_alloc w o v.ownBlock).trans hg
 have hn:∀ k,(B<=k/\k<w.heap.size/\v.ownBlock ≠ some k)->(B<=k/\k<w'.heap.size/\v'.ownBlock ≠ some k)/\w'.heap[k]?=w.heap[k]?:=fun k hk=>by
  refine ⟨⟨hk.1,Nat.lt_of_lt_of_le hk.2.1 hga.size,fun e=>?_⟩,hga.block k hk.2.1 fun e=>hk.2.2 e.symm⟩
  rcases hv with e' | e'
  ·exact hk.2.2 (e'.symm.trans e)
  ·rw [e'] at e;rw [World.size_alloc] at e;cases e;omega
 refine ⟨⟨css++[cs],(h.keep hn).snoc (K.keep hx hn),?_⟩⟩
 rw [List.length_append,List.flatten_append]
 simpa using ho
end
section
variable {P:Program}
end
def TB (t:TypeId) (w:World) (k:Nat):Prop:=∃ cur fz,w.heap[k]?=some (.cells cur t fz)
theorem TB.keep {t:TypeId} {w w':World} {k:Nat} (h:TB t w k) (e:w'.heap[k]?=w.heap[k]?):TB t w' k:=let ⟨c,f,h⟩:=h;⟨c,f,e.trans h⟩
theorem TB.own {B e n m:Nat} {w:World} {v:Value} {xs:List Value} (h:w.ownsRow B e m v n xs):∀ k,v.ownBlock=some k->TB e w k:=by
 intro k hk
 rcases h.2 with ⟨rfl,_⟩ | ⟨g,cap,cur,rfl,_,hg,_⟩
 ·cases hk
 ·cases hk;exact ⟨cur,(0,0),hg⟩
def OwT {α:Type} (K:EK α) (R:Nat->Prop) (e:TypeId) (w:World) (v:Value) (l:List α):Prop :=
 ∃ css,Each K R w css l/\w.ownsRow 0 e K.n v l.length css.flatten/\∀ k,v.ownBlock=some k->R k
theorem OwT.slc {α:Type} {K:EK α} {R:Nat->Prop} {e:TypeId} {w:World} {v:Value} {l:List α} (h:OwT K R e w v l):∃ p c,v = .slice p l.length c:=let ⟨_,_,h,_⟩:=h;own_sliceG h
theorem OwT.keep {α:Type} {K:EK α} {R R':Nat->Prop} {e:TypeId} {w w':World} {v:Value} {l:List α} (h:OwT K R e w v l) (hf:∀ k,R k->R' k/\w'.heap[k]?=w.heap[k]?):OwT K R' e w' v l :=
 let ⟨css,h1,h2,h3⟩:=h;⟨css,h1.keep hf,owns_keepG h2 fun j hj=>(hf j (h3 j hj)).2,fun k hk=>(hf k (h3 k hk)).1⟩
def kInT:EK In where
 n:=7
 pos:=by omega
 E R w cs x:=∃ av,cs=[.int .u8 (x.kind:Int),.int .u8 (x.op:Int),.string ⟨x.dst.toArray⟩,.string ⟨x.nm.toArray⟩,av,.int .i64 x.pos.1,.int .i64 x.pos.2]/\SlG kAg (fun k=>R k/\TB 43 w k) w av x.args
 len h:=by obtain ⟨av,rfl,_⟩:=h;rfl
 one h:=by obtain ⟨av,rfl,hs⟩:=h;intro u hu;simp at hu;rcases hu with rfl | rfl | rfl | rfl | rfl | rfl | rfl <;> first | rfl | exact hs.one
 keep h hf:=let ⟨av,e,hs⟩:=h;⟨av,e,hs.keep fun k hk=>⟨⟨(hf k hk.1).1,hk.2.keep (hf k hk.1).2⟩,(hf k hk.1).2⟩⟩
theorem inT_in {R:Nat->Prop} {w:World} {cs:List Value} {x:In} (h:kInT.E R w cs x):kIn.E R w cs x:=let ⟨av,e,hs⟩:=h;⟨av,e,hs.weaken fun _ hk=>hk.1⟩
theorem OwT.sl {R:Nat->Prop} {e:TypeId} {w:World} {v:Value} {l:List In} (h:OwT kInT R e w v l) (hl:l.length<=140737488355328):SlG kIn R w v l:=by
 obtain ⟨css,h1,h2,h3⟩:=h
 exact SlG.ofOwn (K:=kIn) ⟨h1.1,fun i hi hi'=>inT_in (h1.2 i hi hi')⟩ h2 hl h3
end Go.Proofs.YtoofbgoeipijcaaGreatDoor
namespace Go.Proofs.YtoofbgoeipijcaaGreatDoor
set_option linter.unusedSimpArgs false
set_option linter.unusedVariables false
open Go.RowKit Go.Shelf
open Go.ChangeShapes Go.WideShapes Go.ChangeAt Go.RowKit Go.Joins
def u8v (c:UInt8):Value := .int .u8 (c.toNat:Int)
def Bys (R:Nat->Prop) (w:World) (v:Value) (b:List UInt8):Prop:=Sl R w v (b.map u8v)
theorem Bys.op {R:Nat->Prop} {w:World} {v:Value} {xs:List UInt8} (h:Bys R w v xs) :
  ∃ p c,v = .slice p xs.length c/\xs.length<=c/\c<=maxLen/\xs.length<=140737488355328/\RowR R w p (xs.map u8v):=by
 obtain ⟨p,c,e,h1,h2,h3,hr⟩:=h
 rw [List.length_map] at e h1 h3
 exact ⟨p,c,e,h1,h2,h3,hr⟩
theorem Bys.keep {R R':Nat->Prop} {w w':World} {v:Value} {xs:List UInt8} (h:Bys R w v xs) (hf:∀ k,R k->R' k/\w'.heap[k]?=w.heap[k]?):Bys R' w' v xs:=Sl.keep h hf
theorem Bys.below {R:Nat->Prop} {w w':World} {v:Value} {xs:List UInt8} (h:Bys R w v xs) (hR:∀ k,R k->k<w.heap.size) (hb:Below w.heap.size w w'):Bys R w' v xs:=Sl.keep h fun k hk=>⟨hk,hb.block k (hR k hk)⟩
section
variable {H:Type} {enc:TypeId × Value->H} {W:World}
end
end Go.Proofs.YtoofbgoeipijcaaGreatDoor
namespace Go.Proofs.YtoofbgoeipijcaaGreatDoor
set_option linter.unusedSimpArgs false
set_option linter.unusedVariables false
open Go.RowKit Go.Shelf
attribute [local go_sem] Oper.semAt_some
open Go.ChangeShapes Go.WideShapes Go.ChangeAt Go.Joins
section
variable {H:Type} {enc:TypeId × Value->H} {W:World}
end
theorem parse_w (s:Bs) (m:Int) (r:Pg) (h:parseE s = .ok r) (w:World) (hE:PrE w) (hm:w.cell? ⟨0,0,none⟩=some (.int .i64 m)) :
  Calls Tryz.prog 28 #[.string ⟨s.toArray⟩] w fun e w'=>(∃ ra rb rc rd ya yb yc yd,e = .returned (.tuple #[.agg #[.int .i64 r.width,.slice ra r.chans.length ya,.slice rb r.arrays.length yb,.slice rc r.funcs.length yc,.slice rd r.main.length yd],.agg #[.int .i64 0,.int .i64 0],.int .i64 0])/\PgV (·<w'.heap.size) w' (.slice ra r.chans.length ya) (.slice rb r.arrays.length yb) (.slice rc r.funcs.length yc) (.slice rd r.main.length yd) r)/\Below w.heap.size w w':=by
 refine (parse_any s m w hE.toPrE0 hm).mono ?_
 rintro e w' ⟨hb,a,b,c,d,he,hp⟩
 rw [parse_read h] at he hp
 obtain ⟨ra,ya,h1⟩:=hp.1.slc
 obtain ⟨rb,yb,h2⟩:=hp.2.1.slc
 obtain ⟨rc,yc,h3⟩:=hp.2.2.1.slc
 obtain ⟨rd,yd,h4⟩:=hp.2.2.2.slc
 subst h1 h2 h3 h4
 exact ⟨⟨ra,rb,rc,rd,ya,yb,yc,yd,he,hp⟩,hb⟩
set_option maxRecDepth 100000 in
set_option maxHeartbeats 4000000 in
theorem printAgain_any (sb:ByteArray) (w:World) (hs:sb.size<=9223372036854775807) (hE:PrE w) (hm:∃ m,w.cell? ⟨0,0,none⟩=some (.int .i64 m)) :
  Calls Tryz.prog 11 #[.string sb] w fun e w'=>e = .returned (.bool true)/\Below w.heap.size w w':=by
 obtain ⟨m,hm⟩:=hm
 have HE:=hid hE;have HM:=hid hm
 clear hE hm
 have HMB:=hid (show ∀ W,Below w.heap.size w W->W.cell? ⟨0,0,none⟩=some (.int .i64 m) from fun W hb=>(hb.cell (p:=⟨_,_,none⟩) (cell_size HM.out)).trans HM.out)
 go_enter Tryz.func11,Tryz.ntmps11
 go_upto_region 2 with fail
 have hx:(sb.extract 0 (min (↑sb.size) 2000:Int).toNat).size<=2000:=by
  show (sb.extract 0 _).data.size<=2000
  rw [ByteArray.data_extract,Array.size_extract];omega
 generalize sb.extract 0 (min (↑sb.size) 2000:Int).toNat=sc at *
 obtain ⟨l,rfl⟩:∃ l:Bs,sc=⟨l.toArray⟩:=⟨sc.data.toList,rfl⟩
 have hll:l.length<=2000:=hx
 clear hx
 cases hp:parseE l with
 | error f =>
  obtain ⟨⟨f0,f1⟩,er⟩:=f
  have hc:er ≠ 0:=parse_code hp
  have g:(er == 0)=false:=by rw [beq_eq_false_iff_ne];exact hc
  have HPA:=hid (show Calls Tryz.prog 28 #[.string ⟨l.toArray⟩] w (fun e w'=>(∃ a b c d:Value,∃ p c1 p2 c2 p3 c3 p4 c4,a = .slice p 0 c1/\b = .slice p2 0 c2/\c = .slice p3 0 c3/\d = .slice p4 0 c4/\e = .returned (.tuple #[.agg #[.int .i64 0,a,b,c,d],.agg #[.int .i64 f0,.int .i64 f1],.int .i64 er]))/\Below w.heap.size w w') from by
   refine (parse_any l m w HE.toPrE0 HM.out).mono ?_
   rintro e w' ⟨hb,a,b,c,d,he,hq⟩
   rw [parse_refused hp] at he hq
   obtain ⟨p1,c1,h1⟩:=hq.1.slc
   obtain ⟨p2,c2,h2⟩:=hq.2.1.slc
   obtain ⟨p3,c3,h3⟩:=hq.2.2.1.slc
   obtain ⟨p4,c4,h4⟩:=hq.2.2.2.slc
   exact ⟨⟨a,b,c,d,p1,c1,p2,c2,p3,c3,p4,c4,h1,h2,h3,h4,he⟩,hb⟩)
  clear hp hc
  go_upto_region 3 with (go_at_call 28;(with_reducible refine HPA.out.mono ?_);rintro e w1 ⟨⟨a,b,c,d,p,c1,p2,c2,p3,c3,p4,c4,rfl,rfl,rfl,rfl,rfl⟩,hb⟩;have HB1:=hid hb;clear hb)
  obtain ⟨w2,hw2⟩:∃ W,(w1.alloc (.cells #[.int .i64 0,.slice p 0 c1,.slice p2 0 c2,.slice p3 0 c3,.slice p4 0 c4] 27)).alloc (.cells #[.int .i64 f0,.int .i64 f1] 39)=W:=⟨_,rfl⟩
  have HB2:=hid (show Below w.heap.size w w2 from by rw [<- hw2];exact (HB1.alloc HB1.size _).alloc (by rw [World.size_alloc];have:=HB1.size;omega) _)
  rw [hw2]
  clear hw2
  go_wp2_with (go_at_call 17;(refine (awake24_any _ (HE.out.below HB2.out)).mono ?_);rintro e w9 ⟨rfl,hb⟩;have HB9:=hid (HB2.out.trans (hb.mono HB2.out.size));clear hb)
  go_ret
  exact ⟨rfl,HB9.out⟩
 | ok p =>
  obtain ⟨hpm,r,hr,hbr,hrm⟩:=again hp hll
  obtain ⟨hc,hk,_⟩:=parse_cd hp
  have hti:=text_is p hk
  obtain ⟨hcr,_,htl⟩:=parse_cd hr
  obtain ⟨T,hT⟩:∃ T,textT (linesT p)=T:=⟨_,rfl⟩
  rw [hT] at hpm hr hrm hti htl
  have HPA:=hid (parse_w l m p hp w HE.out HM.out)
  have HC:=hid hc;have HCR:=hid hcr;have HPM:=hid hpm;have HRM:=hid hrm;have HBR:=hid hbr;have HTI:=hid hti;have HR:=hid hr
  have htz:(ByteArray.mk T.toArray).size<=65536:=htl
  have HTZ:=hid htz
  clear hp hpm hr hbr hrm hc hk hti hcr htl hT htz hll
  go_upto_region 3 with (go_at_call 28;(with_reducible refine HPA.out.mono ?_);rintro e w1 ⟨⟨pa,pb,pc,pd,xa,xb,xc,xd,rfl,hr⟩,hb⟩;have HB1:=hid hb;have HG1:=hid hr;clear hb hr)
  obtain ⟨w2,hw2⟩:∃ W,(w1.alloc (.cells #[.int .i64 p.width,.slice pa p.chans.length xa,.slice pb p.arrays.length xb,.slice pc p.funcs.length xc,.slice pd p.main.length xd] 27)).alloc (.cells #[.int .i64 0,.int .i64 0] 39)=W:=⟨_,rfl⟩
  have hb2:Below w1.heap.size w1 w2:=by rw [<- hw2];exact (bA).alloc (by rw [World.size_alloc];omega) _
  have HX2:=hid (show BxL 27 w1.heap.size [.int .i64 p.width,.slice pa p.chans.length xa,.slice pb p.arrays.length xb,.slice pc p.funcs.length xc,.slice pd p.main.length xd] w2 from by rw [<- hw2];exact (BxL.new _ _ _).al _)
  rw [hw2]
  have HB2:=hid (HB1.trans (hb2.mono HB1.size));have HG2:=hid (HG1.below hb2)
  clear hb2 hw2
  obtain ⟨n0,n1,n2,n3,n4⟩:=HX2.p5
  have HPR:=hid (show Calls Tryz.prog 14 #[.agg #[.int .i64 p.width,.slice pa p.chans.length xa,.slice pb p.arrays.length xb,.slice pc p.funcs.length xc,.slice pd p.main.length xd]] w2 (fun e w'=>e = .returned (.tuple #[.string ⟨T.toArray⟩,.int .i64 0])/\Below w2.heap.size w2 w') from by have h:=print_any p _ _ _ _ w2 (HE.below HB2.out) HG2.out HC.pg HC.num;rw [HPM.out] at h;exact h)
  go_upto_region 6 with (go_at_call 14;(with_reducible refine HPR.out.mono ?_);rintro e w3 ⟨rfl,hb⟩;have HB3:=hid (HB2.out.trans (hb.mono HB2.out.size));have HX3:=hid (HX2.out.bel hb);have HG3:=hid (HG2.out.below hb);clear hb n0 n1 n2 n3 n4)
  have HPB:=hid (parse_w T m r HR.out w3 (HE.below HB3.out) (HMB.out _ HB3.out))
  go_upto_region 7 with (go_at_call 28;(with_reducible refine HPB.out.mono ?_);rintro e w4 ⟨⟨ra,rb,rc,rd,ya,yb,yc,yd,rfl,hr⟩,hb⟩;have HB4:=hid (HB3.out.trans (hb.mono HB3.out.size));have HX4:=hid (HX3.out.bel hb);have HG4:=hid (HG3.out.below hb);have HR4:=hid hr;clear hb hr)
  obtain ⟨w5,hw5⟩:∃ W,(w4.alloc (.cells #[.int .i64 r.width,.slice ra r.chans.length ya,.slice rb r.arrays.length yb,.slice rc r.funcs.length yc,.slice rd r.main.length yd] 27)).alloc (.cells #[.int .i64 0,.int .i64 0] 39)=W:=⟨_,rfl⟩
  have hb5:Below w4.heap.size w4 w5:=by rw [<- hw5];exact (bA).alloc (by rw [World.size_alloc];omega) _
  have HY5:=hid (show BxL 27 w4.heap.size [.int .i64 r.width,.slice ra r.chans.length ya,.slice rb r.arrays.length yb,.slice rc r.funcs.length yc,.slice rd r.main.length yd] w5 from by rw [<- hw5];exact (BxL.new _ _ _).al _)
  rw [hw5]
  have HB5:=hid (HB4.trans (hb5.mono HB4.size));have HX5:=hid (HX4.bel hb5);have HG5:=hid (HG4.below hb5);have HR5:=hid (HR4.below hb5)
  clear hb5 hw5
  obtain ⟨m0,m1,m2,m3,m4⟩:=HY5.p5
  have HPS:=hid (show Calls Tryz.prog 14 #[.agg #[.int .i64 r.width,.slice ra r.chans.length ya,.slice rb r.arrays.length yb,.slice rc r.funcs.length yc,.slice rd r.main.length yd]] w5 (fun e w'=>e = .returned (.tuple #[.string ⟨T.toArray⟩,.int .i64 0])/\Below w5.heap.size w5 w') from by have h:=print_any r _ _ _ _ w5 (HE.below HB5.out) HR5.out HCR.pg HCR.num;rw [HRM.out] at h;exact h)
  go_upto_region 8 with (go_at_call 14;(with_reducible refine HPS.out.mono ?_);rintro e w6 ⟨rfl,hb⟩;have HB6:=hid (HB5.out.trans (hb.mono HB5.out.size));have HX6:=hid (HX5.out.bel hb);have HY6:=hid (HY5.out.bel hb);have HG6:=hid (HG5.out.below hb);have HR6:=hid (HR5.out.below hb);clear hb m0 m1 m2 m3 m4)
  obtain ⟨n0,n1,n2,n3,n4⟩:=HX6.p5
  obtain ⟨m0,m1,m2,m3,m4⟩:=HY6.p5
  have HEQ:=hid (show Calls Tryz.prog 32 #[.agg #[.int .i64 p.width,.slice pa p.chans.length xa,.slice pb p.arrays.length xb,.slice pc p.funcs.length xc,.slice pd p.main.length xd],.agg #[.int .i64 r.width,.slice ra r.chans.length ya,.slice rb r.arrays.length yb,.slice rc r.funcs.length yc,.slice rd r.main.length yd]] w6 (fun e w'=>e = .returned (.bool true)/\Below w6.heap.size w6 w') from by exact equal_same p r _ _ _ _ _ _ _ _ w6 HG6.out HR6.out HBR.symm)
  go_upto_region 10 with (go_at_call 32;(with_reducible refine HEQ.out.mono ?_);rintro e w7 ⟨rfl,hb⟩;have HB7:=hid (HB6.out.trans (hb.mono HB6.out.size));clear hb n0 n1 n2 n3 n4 m0 m1 m2 m3 m4)
  have HK0:=hid (show Calls Tryz.prog 38 #[.string ⟨T.toArray⟩,.string ⟨#[35]⟩] w7 (fun e w'=>e = .returned (.bool false)/\w'=w7) from by have h:=Tryz.strings_Contains ⟨T.toArray⟩ ⟨#[35]⟩ m w7 (by have:=HTZ.out;omega) (HMB.out _ HB7.out);rw [show Lib.contains (ByteArray.mk T.toArray).data.toList (ByteArray.mk #[35]).data.toList=false from HTI.h35] at h;exact h)
  have HK1:=hid (show Calls Tryz.prog 38 #[.string ⟨T.toArray⟩,.string ⟨#[9]⟩] w7 (fun e w'=>e = .returned (.bool false)/\w'=w7) from by have h:=Tryz.strings_Contains ⟨T.toArray⟩ ⟨#[9]⟩ m w7 (by have:=HTZ.out;omega) (HMB.out _ HB7.out);rw [show Lib.contains (ByteArray.mk T.toArray).data.toList (ByteArray.mk #[9]).data.toList=false from HTI.h9] at h;exact h)
  have HK2:=hid (show Calls Tryz.prog 38 #[.string ⟨T.toArray⟩,.string ⟨#[32,32]⟩] w7 (fun e w'=>e = .returned (.bool false)/\w'=w7) from by have h:=Tryz.strings_Contains ⟨T.toArray⟩ ⟨#[32,32]⟩ m w7 (by have:=HTZ.out;omega) (HMB.out _ HB7.out);rw [show Lib.contains (ByteArray.mk T.toArray).data.toList (ByteArray.mk #[32,32]).data.toList=false from HTI.h22] at h;exact h)
  have HK3:=hid (show Calls Tryz.prog 38 #[.string ⟨T.toArray⟩,.string ⟨#[10,10]⟩] w7 (fun e w'=>e = .returned (.bool false)/\w'=w7) from by have h:=Tryz.strings_Contains ⟨T.toArray⟩ ⟨#[10,10]⟩ m w7 (by have:=HTZ.out;omega) (HMB.out _ HB7.out);rw [show Lib.contains (ByteArray.mk T.toArray).data.toList (ByteArray.mk #[10,10]).data.toList=false from HTI.h11] at h;exact h)
  have HK4:=hid (show Calls Tryz.prog 38 #[.string ⟨T.toArray⟩,.string ⟨#[32,10]⟩] w7 (fun e w'=>e = .returned (.bool false)/\w'=w7) from by have h:=Tryz.strings_Contains ⟨T.toArray⟩ ⟨#[32,10]⟩ m w7 (by have:=HTZ.out;omega) (HMB.out _ HB7.out);rw [show Lib.contains (ByteArray.mk T.toArray).data.toList (ByteArray.mk #[32,10]).data.toList=false from HTI.h21] at h;exact h)
  have HSU:=hid (show Calls Tryz.prog 39 #[.string ⟨T.toArray⟩,.string ⟨#[10]⟩] w7 (fun e w'=>e = .returned (.bool true)/\w'=w7) from by have h:=Tryz.strings_HasSuffix ⟨T.toArray⟩ ⟨#[10]⟩ w7 (by have:=HTZ.out;omega);rw [show Lib.hasSuffix (ByteArray.mk T.toArray).data.toList (ByteArray.mk #[10]).data.toList=true from HTI.hs] at h;exact h)
  go_wp2_with (first
   | (go_at_call 38;(first | with_reducible refine HK0.out.mono ?_ | with_reducible refine HK1.out.mono ?_ | with_reducible refine HK2.out.mono ?_ | with_reducible refine HK3.out.mono ?_ | with_reducible refine HK4.out.mono ?_);rintro e wq ⟨rfl,hwq⟩;subst hwq)
   | (go_at_call 39;(with_reducible refine HSU.out.mono ?_);rintro e wq ⟨rfl,hwq⟩;subst hwq)
   | (go_at_call 17;(refine (awake24_any _ (HE.out.below HB7.out)).mono ?_);rintro e w9 ⟨rfl,hb⟩;have HB9:=hid (HB7.out.trans (hb.mono HB7.out.size));clear hb))
  go_ret
  exact ⟨rfl,HB9.out⟩
end Go.Proofs.YtoofbgoeipijcaaGreatDoor
namespace Go.Proofs.YtoofbgoeipijcaaGreatDoor
set_option linter.unusedSimpArgs false
set_option linter.unusedVariables false
set_option maxRecDepth 100000
theorem factA:(Tryz.pinned.checked.prog.mayEnter)=true:=by kernel_rfl
set_option maxRecDepth 100000
theorem factB:((Rows.printTextsRow.lifted == Tryz.pinned.checked.prog.liftsFinal))=true:=by kernel_rfl
set_option maxRecDepth 100000
theorem factC:((Tryz.pinned.checked.prog.make == some Rows.printTextsRow.make))=true:=by kernel_rfl
set_option maxRecDepth 100000
theorem factLaid:(laidOutB Tryz.pinned.checked.prog)=true:=by kernel_rfl
theorem factMaps:(mapsRowed Tryz.pinned.checked.prog)=true:=by kernel_rfl
theorem factStops:((Tryz.pinned.checked.prog.stops == []))=true:=by kernel_rfl
theorem factKnobs:((Tryz.pinned.checked.prog.stopKnobs == []))=true:=by kernel_rfl
theorem factKeys:((Rows.printTextsRow.plainKeys == Tryz.pinned.checked.prog.plainKeys))=true:=by kernel_rfl
theorem factHeard:(Tryz.pinned.checked.prog.stopsHeard)=true:=by kernel_rfl
theorem andT {a b:Bool} (h:a=true) (k:b=true):(a && b)=true:=by rw [h,k];rfl
open Go.ChangeShapes Go.WideShapes Go.ChangeAt Go.WideMaps Go.WideElems Go.RowKit
variable {H:Type} {enc:TypeId × Value->H}
theorem handed_and_shaped {a:Assume} {C:Checked} {os:Os} {f:FuncId} {fn:Func} {s:ChangeSpec} {conds:List PathCond} {apart fresh handsOn again:Bool} {X:World->Array Value->Prop}
  (hX:∀ (w w':World) (args:Array Value),w.heap=w'.heap->X w args->X w' args)
  (own:ownKnob C.prog.godebug=none) (started:os.Started) (noInit:C.prog.inits.idxOf? f=none) (hfn:C.prog.funcs[f]?=some fn)
  (witness:∃ (w:World) (tape:Tape) (i:Input),w.os=os/\(w.forCall tape i).Shaped C.prog/\i.vars=[]/\Input.okWide C.prog (w.forCall tape i) .any w.heap.size f i /\
   ((s.pre enc C.prog fn conds apart (w.forCall tape i).memory i.args/\X (w.forCall tape i).memory i.args)/\sizedMet enc C.prog fn (OpenSpec.ofChange s) apart (w.forCall tape i).memory i.args)/\a.holds C.prog (lone (Frame.enter C.prog f i.args .normal) [] (w.forCall tape i)))
  (contract:∀ (W:World) (base:Nat) (args:Array Value) (ds gs:List (DataW H)) (before:List MemPlace),
   (∀ (j:Nat) t v,fn.params[j]?=some t->args[j]?=some v->Value.okWide C.prog W .any base t v) ->
   DataW.Whole enc C.prog fn.params.toList s.vars apart W args.toList ds gs before ->
   conds.all (PathCond.test C.prog ⟨fn.params.toList,ds,s.plain.varTypes C.prog,gs⟩)=true ->
   (DataW.weightsEach C.prog (fn.params.toList++s.plain.varTypes C.prog) (ds++gs)).all (·<=reachBytes)=true->X W args ->
   W.ShapedOpen C.prog ->
   a.holds C.prog (lone (Frame.enter C.prog f args .normal) [] W) ->
   Calls C.prog f args W fun e W'=>∃ v,e = .returned v/\s.post enc C.prog fn apart fresh handsOn again W args v W') :
  ReturnsInHanded a C os f .any (fun w args=>(s.pre enc C.prog fn conds apart w args/\X w args)/\sizedMet enc C.prog fn (OpenSpec.ofChange s) apart w args) (s.post enc C.prog fn apart fresh handsOn again):=by
 refine returnsInHanded_of_calls own started noInit witness ?_
 intro w tape i _ hsh _ hok hpre hholds
 obtain ⟨_,_,_,fn',hfn',_,_,_,_,hval⟩:=hok
 have e:fn'=fn:=Option.some.inj (hfn'.symm.trans hfn)
 subst e
 obtain ⟨⟨⟨ds,gs,before,hw,hc⟩,hx⟩,hz⟩:=hpre
 have hw':=DataW.Whole.of_heap (w':=w.forCall tape i) (by rfl) hw
 refine (contract (w.forCall tape i) w.heap.size i.args ds gs before hval hw' hc (hz.weights hw) (hX _ _ _ (by rfl) hx) hsh hholds).mono fun e W' ⟨v,he,hp⟩=>?_
 subst he
 exact ChangeSpec.post_blind hp
open Go.ChangeShapes Go.WideShapes Go.ChangeAt Go.WideMaps Go.WideElems Go.RowKit
abbrev laidPg:List (String × DataW Unit):=[("math/bits.deBruijn32tab",Rows.laid_math_bits_deBruijn32tab),("math/bits.deBruijn64tab",Rows.laid_math_bits_deBruijn64tab),("internal/strconv.uint64pow10",Rows.laid_internal_strconv_uint64pow10),("weephole/prog.keywords",Rows.laid_weephole_prog_keywords),("weephole/prog.forms",Rows.laid_weephole_prog_forms)]
theorem door_met (os:Os) (args:Array Value):laidMetH Tryz.prog laidPg ((World.doorLaid Tryz.prog 400 os).forCall (fun _ _=>0) ⟨#[],args,[]⟩).memory :=
 laidMetH_of_parts3 (fuel:=8) (laidMet_of_run' 8 (by kernel_rfl) (by kernel_rfl)) (by kernel_rfl) (by kernel_rfl)
def strsD (zs:List Bs):DataW Unit := .slice (zs.map fun z => .lit (.string z)) []
def formsD (fs:List (Bool × Bool × Int)):DataW Unit := .agg (fs.map fun f => .agg [.lit (.bool f.1),.lit (.bool f.2.1),.lit (.int .i64 f.2.2)])
theorem kw_of {W:World} {rest:List (String × DataW Unit)} (h:laidMet Tryz.prog (("weephole/prog.keywords",strsD kwL) :: rest) W) :
  ∃ b off c,W.cell? ⟨3,0,none⟩=some (.slice (some ⟨b,off,none⟩) 16 c)/\∀ j,j<16->W.cell? ⟨b,off+j,none⟩=some (.string ⟨(kwL.getD j []).toArray⟩):=by
 obtain ⟨ps,⟨g',t',cs,fuel,p,q,hg',ht',hvar,hd,_,_⟩,_⟩:=h
 have hg:Tryz.prog.globalNamed "weephole/prog.keywords"=some 3:=by kernel_rfl
 have hty:(Tryz.prog.globals[3]?).map (·.type)=some 22:=by kernel_rfl
 obtain rfl:=Option.some.inj (hg.symm.trans hg')
 obtain rfl:=Option.some.inj (hty.symm.trans ht')
 rcases Deep.open_slice1 Tryz.underlying22 (by kernel_rfl) hd with ⟨_,hx⟩ | ⟨a,len,cap,m,n,V,D,Pl,hcs,_,hl,_,hmm,hx,hV⟩
 ·cases hx
 ·have h1:kwL.map (fun z=>(DataW.lit (.string z):DataW Unit))=(List.range len).map D:=by
   have:=congrArg Prod.fst hx
   simp only [strsD,DataW.slice.injEq] at this
   exact this.1
  have hlen:len=16:=by
   have:=congrArg List.length h1
   simpa [kwL] using this.symm
  subst hlen
  have hm16:16<=m:=by rw [hmm];split <;> omega
  have key:∀ j,j<16->W.cell? (a.add j)=some (.string ⟨(kwL.getD j []).toArray⟩):=fun j hj=>by
   obtain ⟨h2,h3⟩:=hV j (by omega)
   obtain ⟨s,e1,e2,_⟩:=DataW.trod_string Tryz.underlying9 h3
   simp only [List.cons.injEq,and_true] at e1
   have e3:D j = .lit (.string s.data.toList):=congrArg Prod.fst e2
   have h4:=congrArg (fun l=>l[j]?) h1
   have hjk:j<kwL.length:=by simpa [kwL] using hj
   simp only [List.getElem?_map,List.getElem?_range hj,List.getElem?_eq_getElem hjk,Option.map_some,Option.some.injEq,e3,DataW.lit.injEq,Lit.string.injEq] at h4
   rw [h2,e1,List.getD_eq_getElem?_getD,List.getElem?_eq_getElem hjk,Option.getD_some,h4]
  obtain ⟨b,off,spot⟩:=a
  have hspot:spot=none:=by simpa [Addr.add] using World.cell?_spot (key 0 (by omega))
  subst hspot
  have hadd:∀ j,(⟨b,off,none⟩:Addr).add j=⟨b,off+j,none⟩:=fun j=>by unfold Addr.add;split <;> simp_all
  refine ⟨b,off,cap,?_,fun j hj=>by rw [<- hadd];exact key j hj⟩
  have h5:=World.var?_cell hg hvar 0
  rw [h5]
  have h6:=congrArg (fun l=>l[0]?) hcs
  simpa using h6
theorem fo_of {W:World} {rest:List (String × DataW Unit)} (h:laidMet Tryz.prog (("weephole/prog.forms",formsD fieldsL) :: rest) W) :
  ∀ k,k<13->W.cell? ⟨4,3*k,none⟩=some (.bool (fieldsL.getD k (false,false,0)).1)/\W.cell? ⟨4,3*k+1,none⟩=some (.bool (fieldsL.getD k (false,false,0)).2.1)/\W.cell? ⟨4,3*k+2,none⟩=some (.int .i64 (fieldsL.getD k (false,false,0)).2.2):=by
 obtain ⟨ps,⟨g',t',cs,fuel,p,q,hg',ht',hvar,hd,_,_⟩,_⟩:=h
 have hg:Tryz.prog.globalNamed "weephole/prog.forms"=some 4:=by kernel_rfl
 have hty:(Tryz.prog.globals[4]?).map (·.type)=some 232:=by kernel_rfl
 obtain rfl:=Option.some.inj (hg.symm.trans hg')
 obtain rfl:=Option.some.inj (hty.symm.trans ht')
 obtain ⟨xs,m,_,hx,_,hlen,hf⟩:=DataW.trod_array Tryz.underlying232 hd
 have hc3:Tryz.prog.cellsOf 231=3:=by kernel_rfl
 have hcb:Tryz.prog.cellsOf 4=1:=by kernel_rfl
 have hci:Tryz.prog.cellsOf 3=1:=by kernel_rfl
 have h1:fieldsL.map (fun f=>(DataW.agg [.lit (.bool f.1),.lit (.bool f.2.1),.lit (.int .i64 f.2.2)]:DataW Unit))=xs.map (·.1):=by
  have:=congrArg Prod.fst hx
  simpa only [formsD,DataW.agg.injEq] using this
 intro k hk
 have hk2:k<fieldsL.length:=by simpa [fieldsL] using hk
 have hkx:k<xs.length:=by omega
 have h2:=hf k hk
 rw [hc3,List.getElem?_eq_getElem hkx] at h2
 have h4:=congrArg (fun l=>l[k]?) h1
 simp only [List.getElem?_map,List.getElem?_eq_getElem hk2,List.getElem?_eq_getElem hkx,Option.map_some,Option.some.injEq] at h4
 obtain ⟨y0,y1,y2,n1,hx3,h30,k0,k1,k2⟩:=Deep.trod_struct3 Tryz.underlying231 h2
 rw [hx3] at h4
 simp only [DataW.agg.injEq,List.cons.injEq,and_true] at h4
 obtain ⟨g0,g1,g2⟩:=h4
 rw [hc3] at h30
 simp only [hcb,hci] at k0 k1 k2
 obtain ⟨b0,e0,q0⟩:=DataW.trod_bool Tryz.underlying4 k0
 obtain ⟨b1,e1,q1⟩:=DataW.trod_bool Tryz.underlying4 k1
 obtain ⟨i2,e2,q2,_⟩:=DataW.trod_int Tryz.underlying3 k2
 rw [q0] at g0
 rw [q1] at g1
 rw [q2] at g2
 simp only [DataW.lit.injEq,Lit.bool.injEq,Lit.int.injEq,true_and] at g0 g1 g2
 have hgd:fieldsL.getD k (false,false,0)=fieldsL[k]:=by rw [List.getD_eq_getElem?_getD,List.getElem?_eq_getElem hk2,Option.getD_some]
 rw [hgd,g0,g1,g2]
 have c0:=congrArg (fun l=>l[0]?) e0
 have c1:=congrArg (fun l=>l[0]?) e1
 have c2:=congrArg (fun l=>l[0]?) e2
 simp only [List.getElem?_take,List.getElem?_drop,Nat.add_zero,Nat.zero_lt_one,if_true,Nat.reduceLT,if_pos,List.getElem?_cons_zero,Nat.zero_add] at c0 c1 c2
 have v0:=World.var?_cell hg hvar (3*k)
 have v1:=World.var?_cell hg hvar (3*k+1)
 have v2:=World.var?_cell hg hvar (3*k+2)
 rw [v0,v1,v2]
 rw [Nat.mul_comm k 3] at c0 c1 c2
 exact ⟨by simpa using c0,by simpa using c1,by simpa using c2⟩
theorem pre_of_laid {W:World} (h:laidMetH Tryz.prog laidPg W):PrE W:=by
 rw [MakeChecks.laidMetH_plain _ _ _ (by kernel_rfl)] at h
 refine ⟨⟨?_,?_⟩,?_⟩
 ·exact kw_of (show laidMet Tryz.prog (("weephole/prog.keywords",strsD kwL) :: [("weephole/prog.forms",Rows.laid_weephole_prog_forms)]) W from h.tail.tail.tail)
 ·exact fo_of (show laidMet Tryz.prog (("weephole/prog.forms",formsD fieldsL) :: []) W from h.tail.tail.tail.tail)
 ·exact Lib.tabIs_of_head (P:=Tryz.prog) (n:=20) (show Tryz.prog.globalNamed "internal/strconv.uint64pow10"=some 5 by kernel_rfl) (show (Tryz.prog.globals[5]?).map (·.type)=some 234 by kernel_rfl) Tryz.underlying234 Tryz.underlying35 (by kernel_rfl) (by kernel_rfl) (show laidMet Tryz.prog (("internal/strconv.uint64pow10",Lib.tabData .u64 Lib.pow10Tab) :: [("weephole/prog.keywords",Rows.laid_weephole_prog_keywords),("weephole/prog.forms",Rows.laid_weephole_prog_forms)]) W from h.tail.tail)
end Go.Proofs.YtoofbgoeipijcaaGreatDoor
