/-
 Policies: the reader between two lines.
-/
import Derived.Test.YtbijamcoibonkaaDoorCSPoF
namespace Go.Proofs.YtbijamcoibonkaaDoor
set_option linter.unusedSimpArgs false
set_option linter.unusedVariables false
open Go.RowKit Go.Shelf
attribute [local go_sem] Oper.semAt_some
def ZP (r:RS):Prop:=r.e=0→r.pos=(0,0)
theorem ZP.fail {r:RS} {pos:Int × Int} {e:Int} (h:ZP r) (he:e ≠ 0):ZP (failR r pos e):=by
 unfold failR
 split
 ·exact fun q=>absurd q he
 ·exact h
theorem ZP.next {ws:List Wd} {r:RS} (h:ZP r):ZP (nextR ws r).2:=by
 unfold nextR
 split
 ·exact h
 ·exact h.fail (by decide)
theorem ZP.many {ws:List Wd} {r:RS} (h:ZP r) (n m:Nat):ZP (manyR n m ws r):=by
 unfold manyR
 split
 ·exact h.fail (by decide)
 ·exact h
theorem ZP.name {ws:List Wd} {r:RS} (h:ZP r):ZP (nameR ws r).2:=by
 unfold nameR nameQ
 dsimp only
 split
 ·exact h.next
 ·exact h.next.fail (by decide)
theorem ZP.level {ws:List Wd} {r:RS} (h:ZP r):ZP (levelR ws r).2:=by
 unfold levelR levelQ
 dsimp only
 split
 ·exact h.name
 ·exact h.name.fail (by decide)
theorem ZP.new {ws:List Wd} {r:RS} (h:ZP r) (had:List Bs):ZP (newR had ws r).2:=by
 unfold newR newQ
 dsimp only
 split
 ·exact h.name.fail (by decide)
 ·exact h.name
theorem ZP.number {ws:List Wd} {r:RS} (h:ZP r) (lo hi:Nat):ZP (numberR lo hi ws r).2:=by
 unfold numberR numberQ
 dsimp only
 split
 ·rename_i q;exact h.next.fail q
 ·split
  ·exact h.next.fail (by decide)
  ·exact h.next
theorem ZP.set {r:RS} (h:ZP r) (f:Po→Po):ZP (setP r f):=h
theorem ZP.read {ws:List Wd} {r:RS} (h:ZP r) (k:Nat):ZP (readR k ws r):=by
 unfold readR
 split
 ·exact ((h.many _ _).new _).set _
 ·exact (((h.many _ _).level).level).set _
 ·exact (((h.many _ _).new _).level).set _
 ·exact (((h.many _ _).new _).level).set _
 ·unfold modeK
  dsimp only
  split
  ·exact (h.next.set _).fail (by decide)
  ·exact h.next.set _
 ·exact (h.number _ _).set _
 ·exact (h.number _ _).set _
 ·exact (h.number _ _).set _
 ·exact (h.number _ _).set _
theorem ZP.endR {ws:List Wd} {r:RS} (h:ZP r):ZP (endR ws r):=by
 unfold Proofs.YtbijamcoibonkaaDoor.endR
 split
 ·exact h.fail (by decide)
 ·exact h
theorem line_od {st st':LS} {ws:List Wd} (hk:st.k≤8) (h:st.p.od.length≤1024) (hl:lineQ st ws = .ok st'):st'.p.od.length≤1024:=by
 obtain ⟨m,st1,hs,_,hp,_,_,_,_,hb⟩:=line_parts hl
 obtain ⟨_,h2,_,_⟩:=step_spec hk hs
 have hd:=(did_of h2 hb).1
 rw [hp] at hd
 generalize st'.p=p1 at hd
 cases hd with
 | order x y z i j _ _ _ h3=>simp;omega
 | _=>exact h
def rs1 (p:Po):RS:=⟨p,1,(0,0),0⟩
theorem zp1 (p:Po):ZP (rs1 p):=fun _=>rfl
structure PInv (b:Nat) (wb:World) (vl vo vc vs wv:Value) (ix:Nat) (st:LS) (w:World):Prop where
 box:BxL 93 b (rdL vl vo vc vs wv ⟨st.p,ix,(0,0),0⟩) w
 gl:GR kStr NoR (b+1) 9 w vl st.p.lv
 go:GR kPair NoR (b+1) 58 w vo st.p.od
 gc:GR kBind NoR (b+1) 31 w vc st.p.ch
 gs:GR kBind NoR (b+1) 31 w vs st.p.st
 ne:∀ k,vc.ownBlock=some k→vs.ownBlock ≠ some k
 ord:OrdB b (b+1+1+1) (b+1) (b+1+1) st.ord st.last w
 bel:Below b wb w
section
variable {b:Nat} {wb:World} {vl vo vc vs wv:Value} {ix:Nat} {st:LS} {w w2:World} {pw:Option Addr} {cw:Nat} {ws:List Wd} {r:RS}
theorem PInv.load (h:PInv b wb vl vo vc vs wv ix st w) (hr:RowR (·<b) wb pw (wflat ws)) (hk:WOk ws) :
  RwL b vl vo vc vs pw cw ws (rs1 st.p) ((w.setCell ⟨b,9,none⟩ (.slice pw ws.length cw)).setCell ⟨b,10,none⟩ (.int .i64 1)):=by
 have hq:∀ j,j ≠ b→((w.setCell ⟨b,9,none⟩ (.slice pw ws.length cw)).setCell ⟨b,10,none⟩ (.int .i64 1)).heap[j]?=w.heap[j]?:=fun j hj=>(heap_ot hj _).trans (heap_ot hj _)
 exact ⟨⟨(h.box.set 9 _).set 10 _,hr.keep fun j hj=>⟨hj,(hq j (Nat.ne_of_lt hj)).trans (h.bel.block j hj)⟩,hk.pos,hk⟩,
  h.gl.keepN fun k hk=>hq k (by have:=(h.gl.lt k hk).1;omega),h.go.keepN fun k hk=>hq k (by have:=(h.go.lt k hk).1;omega),
  h.gc.keepN fun k hk=>hq k (by have:=(h.gc.lt k hk).1;omega),h.gs.keepN fun k hk=>hq k (by have:=(h.gs.lt k hk).1;omega),h.ne⟩
theorem PInv.loadO (h:PInv b wb vl vo vc vs wv ix st w) (u v:Value):OrdB b (b+1+1+1) (b+1) (b+1+1) st.ord st.last ((w.setCell ⟨b,9,none⟩ u).setCell ⟨b,10,none⟩ v) :=
 h.ord.but (((But.refl (fun i=>i=b) w).setC _ (.inl rfl)).setC _ (.inl rfl))
theorem PInv.loadB (h:PInv b wb vl vo vc vs wv ix st w) (u v:Value):Below b wb ((w.setCell ⟨b,9,none⟩ u).setCell ⟨b,10,none⟩ v) :=
 (h.bel.setCell (p:=⟨b,9,none⟩) (Nat.le_refl _) _).setCell (p:=⟨b,10,none⟩) (Nat.le_refl _) _
theorem PInv.back {k:Nat} {od:Bool} {last:Int × Int} (h:RwL b vl vo vc vs pw cw ws r w) (he:r.e=0) (hz:ZP r) (ho:OrdB b (b+1+1+1) (b+1) (b+1+1) od last w) (hb:Below b wb w) :
  PInv b wb vl vo vc vs (.slice pw ws.length cw) r.ix ⟨r.p,k,last,od⟩ w:=by
 have hp:=hz he
 refine ⟨?_,h.gl,h.go,h.gc,h.gs,h.ne,ho,hb⟩
 have:=h.rr.box
 unfold rdL at this
 rw [he,hp] at this
 exact this
end
set_option maxRecDepth 100000 in
set_option maxHeartbeats 4000000 in
theorem fail_q {b:Nat} {vl vo vc vs wv:Value} {r:RS} {w:World} (pos:Int × Int) (e:Int) (h:BxL 93 b (rdL vl vo vc vs wv r) w) :
  Calls Tryd.prog 51 #[.pointer (some ⟨b,0,none⟩),.agg #[.int .i64 pos.1,.int .i64 pos.2],.int .i64 e] w (fun e' w'=>e' = .returned (.tuple #[])∧BxL 93 b (rdL vl vo vc vs wv (failR r pos e)) w'∧But (fun i=>i=b) w w'):=by
 have HR:=hid h
 have HB1:=hid (show But (fun i=>i=b) w (w.alloc (.cells #[.int .i64 pos.1,.int .i64 pos.2] 42)) from But.of_below _ ((Below.refl _ _).alloc (Nat.le_refl _) _))
 clear h
 by_cases he:r.e=0
 ·have HE:=hid he
  go_enter Tryd.func51,Tryd.ntmps51
  go_upto_region 1 with fail
  obtain ⟨p9,hp9⟩:∃ p,w.heap.size=p:=⟨_,rfl⟩
  obtain ⟨w1,hw1⟩:∃ W,w.alloc (.cells #[.int .i64 pos.1,.int .i64 pos.2] 42)=W:=⟨_,rfl⟩
  rw [hw1] at HB1 ⊢
  have HR1:=hid (show BxL 93 b (rdL vl vo vc vs wv r) w1 from by rw [← hw1];exact HR.out.al _)
  have hx:BxL 42 p9 [.int .i64 pos.1,.int .i64 pos.2] w1:=by rw [← hw1,← hp9];exact BxL.new _ _ _
  have x0:=hx.at 0 rfl
  have x1:=hx.at 1 rfl
  have c13:=HR1.out.at 13 rfl
  have f11:=HR1.out.fr 11
  have f12:=HR1.out.fr 12
  have f13:=HR1.out.fr 13
  have c11:=HR1.out.at 11 rfl
  have c12:=HR1.out.at 12 rfl
  rw [hp9]
  have te:(r.e == 0)=true:=by rw [he];rfl
  clear hw1 hx he hp9
  go_wp2_with fail
  go_end0
  refine ⟨rfl,?_,?_⟩
  ·rw [show failR r pos e={ r with pos:=pos,e:=e } from if_pos HE.out]
   exact ((HR1.out.set 11 _).set 12 _).set 13 _
  ·exact ((HB1.out.setC _ (.inl rfl)).setC _ (.inl rfl)).setC _ (.inl rfl)
 ·have te:(r.e == 0)=false:=by rw [beq_eq_false_iff_ne];exact he
  have HE:=hid he
  have hc:∀ o,(w.alloc o).cell? ⟨b,13,none⟩=some (.int .i64 r.e):=fun o=>(HR.out.al o).at 13 rfl
  clear he
  go_enter Tryd.func51,Tryd.ntmps51
  go_wp2_with fail
  go_end0
  refine ⟨rfl,?_,HB1.out⟩
  rw [show failR r pos e=r from if_neg HE.out]
  exact HR.out.al _
set_option maxRecDepth 100000 in
set_option maxHeartbeats 4000000 in
theorem order_em {b o1 o2 o3:Nat} {od:Bool} {last:Int × Int} {w:World} {p:Option Addr} {c:Nat} (ho:OrdB b o1 o2 o3 od last w) (c3:w.cell? ⟨b,0,none⟩=some (.slice p 0 c)) :
  Calls Tryd.prog 50 #[.pointer (some ⟨o1,0,none⟩),.pointer (some ⟨o2,0,none⟩),.pointer (some ⟨o3,0,none⟩)] w (fun e w'=>e = .returned (.bool true)∧w'=w):=by
 have c1:=ho.c1.at 0 rfl
 have c2:=ho.c2.at 0 rfl
 cases od with
 | true =>
  go_enter Tryd.func50,Tryd.ntmps50
  go_wp2_with fail
  go_ret
  exact ⟨rfl,rfl⟩
 | false =>
  go_enter Tryd.func50,Tryd.ntmps50
  go_wp2_with fail
  go_ret
  exact ⟨rfl,rfl⟩
theorem PInv.rwl {b:Nat} {wb:World} {vl vo vc vs:Value} {ix:Nat} {st:LS} {w:World} {pw:Option Addr} {cw:Nat} {ws:List Wd} (h:PInv b wb vl vo vc vs (.slice pw ws.length cw) ix st w) (hr:RowR (·<b) wb pw (wflat ws)) (hi:ix≤ws.length) (hk:WOk ws) :
  RwL b vl vo vc vs pw cw ws ⟨st.p,ix,(0,0),0⟩ w :=
 ⟨⟨h.box,hr.keep fun j hj=>⟨hj,h.bel.block j hj⟩,hi,hk⟩,h.gl,h.go,h.gc,h.gs,h.ne⟩
theorem kind_any {b:Nat} {vl vo vc vs:Value} {pw:Option Addr} {cw:Nat} {ws:List Wd} {r:RS} {w:World} (k:Nat) (hk:k<9) (h:RwL b vl vo vc vs pw cw ws r w) (hl:r.p.lv.length≤2000) (ho:r.p.od.length≤2000) (hc:r.p.ch.length≤2000) (hs:r.p.st.length≤2000) :
  Calls Tryd.prog (kindF.getD k 0) #[.pointer (some ⟨b,0,none⟩)] w (fun e w'=>e = .returned (.tuple #[])∧(∃ vl' vo' vc' vs',RwL b vl' vo' vc' vs' pw cw ws (readR k ws r) w')∧Below b w w'∧Keeps b w w'):=by
 match k,hk with
 | 0,_=>exact kind_1 h hl
 | 1,_=>exact kind_2 h hl ho
 | 2,_=>exact kind_3 h hl hc
 | 3,_=>exact kind_4 h hl hs
 | 4,_=>exact kind_5 h
 | 5,_=>exact kind_6 h
 | 6,_=>exact kind_7 h
 | 7,_=>exact kind_8 h
 | 8,_=>exact kind_9 h
end Go.Proofs.YtbijamcoibonkaaDoor
