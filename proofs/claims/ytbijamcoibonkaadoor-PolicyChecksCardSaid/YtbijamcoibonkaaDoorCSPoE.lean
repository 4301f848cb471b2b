/-
 Policies: the kinds of lines.
-/
import Derived.Test.YtbijamcoibonkaaDoorCSPoD
namespace Go.Proofs.YtbijamcoibonkaaDoor
set_option linter.unusedSimpArgs false
set_option linter.unusedVariables false
open Go.RowKit Go.Shelf
attribute [local go_sem] Oper.semAt_some
abbrev NoR:Nat→Prop:=fun _=>False
theorem GR.keepN {α:Type} {K:EK α} {B e:Nat} {w w':World} {v:Value} {l:List α} (h:GR K NoR B e w v l) (ho:∀ j,v.ownBlock=some j→w'.heap[j]?=w.heap[j]?):GR K NoR B e w' v l:=h.keep (fun _ hk=>hk.elim) ho
theorem ne_ty {α β:Type} {K:EK α} {K':EK β} {R R':Nat→Prop} {B e e':Nat} {w:World} {v v':Value} {l:List α} {l':List β} (h:GR K R B e w v l) (h':GR K' R' B e' w v' l') (hne:e ≠ e'):∀ k,v.ownBlock=some k→v'.ownBlock ≠ some k:=by
 intro k hk hk'
 obtain ⟨_,_,_,h1⟩:=h
 obtain ⟨_,_,_,h2⟩:=h'
 rcases h1 with ⟨rfl,_⟩ | ⟨g,cap,cur,rfl,_,hg,_⟩
 ·cases hk
 rcases h2 with ⟨rfl,_⟩ | ⟨g',cap',cur',rfl,_,hg',_⟩
 ·cases hk'
 cases hk
 cases hk'
 rw [hg] at hg'
 injection hg' with e1
 injection e1 with _ e2
 exact hne e2
structure RwL (b:Nat) (vl vo vc vs:Value) (pw:Option Addr) (cw:Nat) (ws:List Wd) (r:RS) (w:World):Prop where
 rr:Rr b vl vo vc vs pw cw ws r w
 gl:GR kStr NoR (b+1) 9 w vl r.p.lv
 go:GR kPair NoR (b+1) 58 w vo r.p.od
 gc:GR kBind NoR (b+1) 31 w vc r.p.ch
 gs:GR kBind NoR (b+1) 31 w vs r.p.st
 ne:∀ k,vc.ownBlock=some k→vs.ownBlock ≠ some k
section
variable {b:Nat} {vl vo vc vs:Value} {pw:Option Addr} {cw:Nat} {ws:List Wd} {r r2:RS} {w w2:World}
theorem RwL.on (h:RwL b vl vo vc vs pw cw ws r w) (hr:Rr b vl vo vc vs pw cw ws r2 w2) (hp:r2.p=r.p) (hb:But (fun i=>i=b) w w2):RwL b vl vo vc vs pw cw ws r2 w2 :=
 ⟨hr,by rw [hp];exact h.gl.keepN fun k hk=>hb.block k (h.gl.lt k hk).2 (by have:=(h.gl.lt k hk).1;omega),by rw [hp];exact h.go.keepN fun k hk=>hb.block k (h.go.lt k hk).2 (by have:=(h.go.lt k hk).1;omega),
  by rw [hp];exact h.gc.keepN fun k hk=>hb.block k (h.gc.lt k hk).2 (by have:=(h.gc.lt k hk).1;omega),by rw [hp];exact h.gs.keepN fun k hk=>hb.block k (h.gs.lt k hk).2 (by have:=(h.gs.lt k hk).1;omega),h.ne⟩
theorem RwL.below (h:RwL b vl vo vc vs pw cw ws r w) (hb:Below w.heap.size w w2):RwL b vl vo vc vs pw cw ws r w2:=h.on (h.rr.below hb) rfl (But.of_below _ hb)
theorem RwL.lvs (h:RwL b vl vo vc vs pw cw ws r w) (hl:r.p.lv.length≤140737488355328):∀ W,But (fun i=>i=b) w W→SlG kStr (fun _=>True) W vl r.p.lv:=fun W hW =>
 (((h.gl.keepN fun k hk=>hW.block k (h.gl.lt k hk).2 (by have:=(h.gl.lt k hk).1;omega)):GR kStr NoR (b+1) 9 W vl r.p.lv).sl hl).weaken fun _ _=>trivial
theorem RwL.putLv (h:RwL b vl vo vc vs pw cw ws r w) {v':Value} {l':List Bs} (hg:w.grownBy w2 vl.ownBlock) (hm:Moved w vl v') (hG:GR kStr NoR (b+1) 9 w2 v' l') :
  RwL b v' vo vc vs pw cw ws { r with p:={ r.p with lv:=l' } } (w2.setCell ⟨b,0,none⟩ v'):=by
 have hb:w2.heap[b]?=w.heap[b]?:=hg.block b h.rr.box.lt (fun e=>by have:=(h.gl.lt b e.symm).1;omega)
 refine ⟨⟨(h.rr.box.keep hb).set 0 v',h.rr.row.keep fun k hk=>⟨hk,(heap_ot (Nat.ne_of_lt hk) _).trans (hg.block k (Nat.lt_trans hk h.rr.box.lt) (fun e=>by have:=(h.gl.lt k e.symm).1;omega))⟩,h.rr.le,h.rr.ok⟩,hG.keepN fun k hk=>heap_ot (by have:=(hG.lt k hk).1;omega) _,h.go.keepN fun k hk=>(heap_ot (by have:=(h.go.lt k hk).1;omega) _).trans (hg.block k (h.go.lt k hk).2 (fun e=>ne_ty h.go h.gl (by decide) k hk e.symm)),h.gc.keepN fun k hk=>(heap_ot (by have:=(h.gc.lt k hk).1;omega) _).trans (hg.block k (h.gc.lt k hk).2 (fun e=>ne_ty h.gc h.gl (by decide) k hk e.symm)),h.gs.keepN fun k hk=>(heap_ot (by have:=(h.gs.lt k hk).1;omega) _).trans (hg.block k (h.gs.lt k hk).2 (fun e=>ne_ty h.gs h.gl (by decide) k hk e.symm)),h.ne⟩
theorem RwL.putOd (h:RwL b vl vo vc vs pw cw ws r w) {v':Value} {l':List (Int × Int)} (hg:w.grownBy w2 vo.ownBlock) (hm:Moved w vo v') (hG:GR kPair NoR (b+1) 58 w2 v' l') :
  RwL b vl v' vc vs pw cw ws { r with p:={ r.p with od:=l' } } (w2.setCell ⟨b,1,none⟩ v'):=by
 have hb:w2.heap[b]?=w.heap[b]?:=hg.block b h.rr.box.lt (fun e=>by have:=(h.go.lt b e.symm).1;omega)
 refine ⟨⟨(h.rr.box.keep hb).set 1 v',h.rr.row.keep fun k hk=>⟨hk,(heap_ot (Nat.ne_of_lt hk) _).trans (hg.block k (Nat.lt_trans hk h.rr.box.lt) (fun e=>by have:=(h.go.lt k e.symm).1;omega))⟩,h.rr.le,h.rr.ok⟩,h.gl.keepN fun k hk=>(heap_ot (by have:=(h.gl.lt k hk).1;omega) _).trans (hg.block k (h.gl.lt k hk).2 (fun e=>ne_ty h.gl h.go (by decide) k hk e.symm)),hG.keepN fun k hk=>heap_ot (by have:=(hG.lt k hk).1;omega) _,h.gc.keepN fun k hk=>(heap_ot (by have:=(h.gc.lt k hk).1;omega) _).trans (hg.block k (h.gc.lt k hk).2 (fun e=>ne_ty h.gc h.go (by decide) k hk e.symm)),h.gs.keepN fun k hk=>(heap_ot (by have:=(h.gs.lt k hk).1;omega) _).trans (hg.block k (h.gs.lt k hk).2 (fun e=>ne_ty h.gs h.go (by decide) k hk e.symm)),h.ne⟩
theorem RwL.putCh (h:RwL b vl vo vc vs pw cw ws r w) {v':Value} {l':List (Bs × Int)} (hg:w.grownBy w2 vc.ownBlock) (hm:Moved w vc v') (hG:GR kBind NoR (b+1) 31 w2 v' l') :
  RwL b vl vo v' vs pw cw ws { r with p:={ r.p with ch:=l' } } (w2.setCell ⟨b,2,none⟩ v'):=by
 have hb:w2.heap[b]?=w.heap[b]?:=hg.block b h.rr.box.lt (fun e=>by have:=(h.gc.lt b e.symm).1;omega)
 refine ⟨⟨(h.rr.box.keep hb).set 2 v',h.rr.row.keep fun k hk=>⟨hk,(heap_ot (Nat.ne_of_lt hk) _).trans (hg.block k (Nat.lt_trans hk h.rr.box.lt) (fun e=>by have:=(h.gc.lt k e.symm).1;omega))⟩,h.rr.le,h.rr.ok⟩,h.gl.keepN fun k hk=>(heap_ot (by have:=(h.gl.lt k hk).1;omega) _).trans (hg.block k (h.gl.lt k hk).2 (fun e=>ne_ty h.gl h.gc (by decide) k hk e.symm)),h.go.keepN fun k hk=>(heap_ot (by have:=(h.go.lt k hk).1;omega) _).trans (hg.block k (h.go.lt k hk).2 (fun e=>ne_ty h.go h.gc (by decide) k hk e.symm)),hG.keepN fun k hk=>heap_ot (by have:=(hG.lt k hk).1;omega) _,h.gs.keepN fun k hk=>(heap_ot (by have:=(h.gs.lt k hk).1;omega) _).trans (hg.block k (h.gs.lt k hk).2 (fun e=>h.ne k e.symm hk)),fun k hk=>by
  rcases hm with e | ⟨q,e,hq⟩
  ·exact h.ne k (e ▸ hk)
  ·rw [e] at hk;cases hk;intro e2;have:=(h.gs.lt _ e2).2;omega⟩
theorem RwL.putSt (h:RwL b vl vo vc vs pw cw ws r w) {v':Value} {l':List (Bs × Int)} (hg:w.grownBy w2 vs.ownBlock) (hm:Moved w vs v') (hG:GR kBind NoR (b+1) 31 w2 v' l') :
  RwL b vl vo vc v' pw cw ws { r with p:={ r.p with st:=l' } } (w2.setCell ⟨b,3,none⟩ v'):=by
 have hb:w2.heap[b]?=w.heap[b]?:=hg.block b h.rr.box.lt (fun e=>by have:=(h.gs.lt b e.symm).1;omega)
 refine ⟨⟨(h.rr.box.keep hb).set 3 v',h.rr.row.keep fun k hk=>⟨hk,(heap_ot (Nat.ne_of_lt hk) _).trans (hg.block k (Nat.lt_trans hk h.rr.box.lt) (fun e=>by have:=(h.gs.lt k e.symm).1;omega))⟩,h.rr.le,h.rr.ok⟩,h.gl.keepN fun k hk=>(heap_ot (by have:=(h.gl.lt k hk).1;omega) _).trans (hg.block k (h.gl.lt k hk).2 (fun e=>ne_ty h.gl h.gs (by decide) k hk e.symm)),h.go.keepN fun k hk=>(heap_ot (by have:=(h.go.lt k hk).1;omega) _).trans (hg.block k (h.go.lt k hk).2 (fun e=>ne_ty h.go h.gs (by decide) k hk e.symm)),h.gc.keepN fun k hk=>(heap_ot (by have:=(h.gc.lt k hk).1;omega) _).trans (hg.block k (h.gc.lt k hk).2 (fun e=>h.ne k hk e.symm)),hG.keepN fun k hk=>heap_ot (by have:=(hG.lt k hk).1;omega) _,fun k hk=>by
  rcases hm with e | ⟨q,e,hq⟩
  ·rw [e];exact h.ne k hk
  ·rw [e];intro e2;cases e2;have:=(h.gc.lt _ hk).2;omega⟩
end
theorem RwL.setN {b:Nat} {vl vo vc vs:Value} {pw:Option Addr} {cw:Nat} {ws:List Wd} {r r2:RS} {w:World} (h:RwL b vl vo vc vs pw cw ws r w) (i:Nat) (v:Value) (hb:rdL vl vo vc vs (.slice pw ws.length cw) r2=(rdL vl vo vc vs (.slice pw ws.length cw) r).set i v) (hp:r2.p.lv=r.p.lv∧r2.p.od=r.p.od∧r2.p.ch=r.p.ch∧r2.p.st=r.p.st) (hx:r2.ix=r.ix):RwL b vl vo vc vs pw cw ws r2 (w.setCell ⟨b,i,none⟩ v):=by
 refine ⟨⟨by rw [hb];exact h.rr.box.set i v,h.rr.row.keep fun j hj=>⟨hj,heap_ot (Nat.ne_of_lt hj) _⟩,by rw [hx];exact h.rr.le,h.rr.ok⟩,?_,?_,?_,?_,h.ne⟩
 ·rw [hp.1];exact h.gl.keepN fun k hk=>heap_ot (by have:=(h.gl.lt k hk).1;omega) _
 ·rw [hp.2.1];exact h.go.keepN fun k hk=>heap_ot (by have:=(h.go.lt k hk).1;omega) _
 ·rw [hp.2.2.1];exact h.gc.keepN fun k hk=>heap_ot (by have:=(h.gc.lt k hk).1;omega) _
 ·rw [hp.2.2.2];exact h.gs.keepN fun k hk=>heap_ot (by have:=(h.gs.lt k hk).1;omega) _
theorem own_ne {α:Type} {K:EK α} {R:Nat→Prop} {B e t q:Nat} {w:World} {v:Value} {l:List α} {cs:List Value} (h:GR K R B e w v l) (hx:BxL t q cs w) (hne:t ≠ e):v.ownBlock ≠ some q:=by
 intro hk
 obtain ⟨_,_,_,h1⟩:=h
 rcases h1 with ⟨rfl,_⟩ | ⟨g,cap,cur,rfl,_,hg,_⟩
 ·cases hk
 cases hk
 unfold BxL at hx
 rw [hx] at hg
 injection hg with e1
 injection e1 with _ e2
 exact hne e2
def Keeps (b:Nat) (w w':World):Prop:=∀ t c cs,c ≠ b→t ≠ 9→t ≠ 58→t ≠ 31→BxL t c cs w→BxL t c cs w'
theorem Keeps.of_but {b:Nat} {w w':World} (h:But (fun i=>i=b) w w'):Keeps b w w':=fun _ _ _ hc _ _ _ hx=>hx.but h hc
theorem Keeps.trans {b:Nat} {u v w:World} (h:Keeps b u v) (k:Keeps b v w):Keeps b u w:=fun t c cs a1 a2 a3 a4 hx=>k t c cs a1 a2 a3 a4 (h t c cs a1 a2 a3 a4 hx)
theorem Keeps.setB {b i:Nat} {w w':World} {v:Value} (h:Keeps b w w'):Keeps b w (w'.setCell ⟨b,i,none⟩ v):=fun t c cs a1 a2 a3 a4 hx=>(h t c cs a1 a2 a3 a4 hx).keep (heap_ot a1 _)
theorem Keeps.of_grown {α:Type} {K:EK α} {b e:Nat} {w w':World} {v:Value} {l:List α} (h:GR K NoR (b+1) e w v l) (hg:w.grownBy w' v.ownBlock) (he:e=9∨e=58∨e=31):Keeps b w w':=fun t c cs a1 a2 a3 a4 hx =>
 hx.keep (hg.block c hx.lt fun q=>own_ne h hx (by rcases he with e | e | e <;> rw [e] <;> assumption) q.symm)
theorem info_strE:(Tryd.prog.info? 9).map (fun i=>(i.zero,i.size,i.bytes))=some (some (.string ⟨#[]⟩),1,16):=by kernel_rfl
theorem info_prE:(Tryd.prog.info? 58).map (fun i=>(i.zero,i.size,i.bytes))=some (some (.agg #[.int .i64 0,.int .i64 0]),2,16):=by kernel_rfl
theorem info_bdE:(Tryd.prog.info? 31).map (fun i=>(i.zero,i.size,i.bytes))=some (some (.agg #[.string ⟨#[]⟩,.int .i64 0]),2,24):=by kernel_rfl
theorem many_p (n most:Nat) (ws:List Wd) (r:RS):(manyR n most ws r).p=r.p:=by unfold manyR;split;exact failR_p _ _ _;rfl
theorem level_p (ws:List Wd) (r:RS):(levelR ws r).2.p=r.p:=by
 unfold levelR levelQ
 dsimp only
 split
 ·exact name_p ws r
 ·rw [failR_p];exact name_p ws r
theorem number_p (lo hi:Nat) (ws:List Wd) (r:RS):(numberR lo hi ws r).2.p=r.p:=by
 unfold numberR numberQ
 dsimp only
 split
 ·rw [failR_p];exact next_p ws r
 ·split
  ·rw [failR_p];exact next_p ws r
  ·exact next_p ws r
set_option maxRecDepth 100000 in
set_option maxHeartbeats 4000000 in
theorem kind_6 {b:Nat} {vl vo vc vs:Value} {pw:Option Addr} {cw:Nat} {ws:List Wd} {r:RS} {w:World} (h:RwL b vl vo vc vs pw cw ws r w):Calls Tryd.prog 130 #[.pointer (some ⟨b,0,none⟩)] w (fun e w'=>e = .returned (.tuple #[])∧(∃ vl' vo' vc' vs',RwL b vl' vo' vc' vs' pw cw ws (readR 5 ws r) w')∧Below b w w'∧Keeps b w w'):=by
 have HN:=hid (show Calls Tryd.prog 131 #[.pointer (some ⟨b,0,none⟩),.int .u64 1,.int .u64 65536] w (RrP b vl vo vc vs pw cw ws (.int .i64 (numberR 1 65536 ws r).1) (numberR 1 65536 ws r).2 w) from number_po 1 65536 (by omega) (by omega) h.rr)
 have HW:=hid h
 have hp:=number_p 1 65536 ws r
 have HK:=hid (show readR 5 ws r=setP (numberR 1 65536 ws r).2 fun p=>{ p with steps:=(numberR 1 65536 ws r).1 } from rfl)
 obtain ⟨⟨z,r2⟩,hz⟩:∃ y,numberR 1 65536 ws r=y:=⟨_,rfl⟩
 rw [hz] at HN HK hp
 have HP:=hid hp
 clear h hz hp
 go_enter Tryd.func130,Tryd.ntmps130
 go_wp2_with (go_at_call 131;(with_reducible refine HN.out.mono ?_);rintro e w1 ⟨rfl,hr1,hb1⟩;have HR1:=hid hr1;have HB1:=hid hb1;have c1:=hr1.box.at 5 rfl;have f1:=hr1.box.fr 5;clear hr1 hb1)
 go_end0
 have HW1:=HW.out.on HR1.out HP.out HB1.out
 refine ⟨rfl,⟨_,_,_,_,by rw [HK.out];exact HW1.setN 5 _ rfl ⟨rfl,rfl,rfl,rfl⟩ rfl⟩,?_⟩
 ·exact ⟨(HB1.out.below (Nat.le_of_lt HW.out.rr.box.lt) fun k e=>Nat.le_of_eq e.symm).setCell (p:=⟨b,5,none⟩) (Nat.le_refl _) _,(Keeps.of_but HB1.out).setB⟩
set_option maxRecDepth 100000 in
set_option maxHeartbeats 4000000 in
theorem kind_7 {b:Nat} {vl vo vc vs:Value} {pw:Option Addr} {cw:Nat} {ws:List Wd} {r:RS} {w:World} (h:RwL b vl vo vc vs pw cw ws r w):Calls Tryd.prog 132 #[.pointer (some ⟨b,0,none⟩)] w (fun e w'=>e = .returned (.tuple #[])∧(∃ vl' vo' vc' vs',RwL b vl' vo' vc' vs' pw cw ws (readR 6 ws r) w')∧Below b w w'∧Keeps b w w'):=by
 have HN:=hid (show Calls Tryd.prog 131 #[.pointer (some ⟨b,0,none⟩),.int .u64 1,.int .u64 4096] w (RrP b vl vo vc vs pw cw ws (.int .i64 (numberR 1 4096 ws r).1) (numberR 1 4096 ws r).2 w) from number_po 1 4096 (by omega) (by omega) h.rr)
 have HW:=hid h
 have hp:=number_p 1 4096 ws r
 have HK:=hid (show readR 6 ws r=setP (numberR 1 4096 ws r).2 fun p=>{ p with paths:=(numberR 1 4096 ws r).1 } from rfl)
 obtain ⟨⟨z,r2⟩,hz⟩:∃ y,numberR 1 4096 ws r=y:=⟨_,rfl⟩
 rw [hz] at HN HK hp
 have HP:=hid hp
 clear h hz hp
 go_enter Tryd.func132,Tryd.ntmps132
 go_wp2_with (go_at_call 131;(with_reducible refine HN.out.mono ?_);rintro e w1 ⟨rfl,hr1,hb1⟩;have HR1:=hid hr1;have HB1:=hid hb1;have c1:=hr1.box.at 6 rfl;have f1:=hr1.box.fr 6;clear hr1 hb1)
 go_end0
 have HW1:=HW.out.on HR1.out HP.out HB1.out
 refine ⟨rfl,⟨_,_,_,_,by rw [HK.out];exact HW1.setN 6 _ rfl ⟨rfl,rfl,rfl,rfl⟩ rfl⟩,?_⟩
 ·exact ⟨(HB1.out.below (Nat.le_of_lt HW.out.rr.box.lt) fun k e=>Nat.le_of_eq e.symm).setCell (p:=⟨b,6,none⟩) (Nat.le_refl _) _,(Keeps.of_but HB1.out).setB⟩
set_option maxRecDepth 100000 in
set_option maxHeartbeats 4000000 in
theorem kind_8 {b:Nat} {vl vo vc vs:Value} {pw:Option Addr} {cw:Nat} {ws:List Wd} {r:RS} {w:World} (h:RwL b vl vo vc vs pw cw ws r w):Calls Tryd.prog 133 #[.pointer (some ⟨b,0,none⟩)] w (fun e w'=>e = .returned (.tuple #[])∧(∃ vl' vo' vc' vs',RwL b vl' vo' vc' vs' pw cw ws (readR 7 ws r) w')∧Below b w w'∧Keeps b w w'):=by
 have HN:=hid (show Calls Tryd.prog 131 #[.pointer (some ⟨b,0,none⟩),.int .u64 0,.int .u64 1048576] w (RrP b vl vo vc vs pw cw ws (.int .i64 (numberR 0 1048576 ws r).1) (numberR 0 1048576 ws r).2 w) from number_po 0 1048576 (by omega) (by omega) h.rr)
 have HW:=hid h
 have hp:=number_p 0 1048576 ws r
 have HK:=hid (show readR 7 ws r=setP (numberR 0 1048576 ws r).2 fun p=>{ p with nodes:=(numberR 0 1048576 ws r).1 } from rfl)
 obtain ⟨⟨z,r2⟩,hz⟩:∃ y,numberR 0 1048576 ws r=y:=⟨_,rfl⟩
 rw [hz] at HN HK hp
 have HP:=hid hp
 clear h hz hp
 go_enter Tryd.func133,Tryd.ntmps133
 go_wp2_with (go_at_call 131;(with_reducible refine HN.out.mono ?_);rintro e w1 ⟨rfl,hr1,hb1⟩;have HR1:=hid hr1;have HB1:=hid hb1;have c1:=hr1.box.at 7 rfl;have f1:=hr1.box.fr 7;clear hr1 hb1)
 go_end0
 have HW1:=HW.out.on HR1.out HP.out HB1.out
 refine ⟨rfl,⟨_,_,_,_,by rw [HK.out];exact HW1.setN 7 _ rfl ⟨rfl,rfl,rfl,rfl⟩ rfl⟩,?_⟩
 ·exact ⟨(HB1.out.below (Nat.le_of_lt HW.out.rr.box.lt) fun k e=>Nat.le_of_eq e.symm).setCell (p:=⟨b,7,none⟩) (Nat.le_refl _) _,(Keeps.of_but HB1.out).setB⟩
set_option maxRecDepth 100000 in
set_option maxHeartbeats 4000000 in
theorem kind_9 {b:Nat} {vl vo vc vs:Value} {pw:Option Addr} {cw:Nat} {ws:List Wd} {r:RS} {w:World} (h:RwL b vl vo vc vs pw cw ws r w):Calls Tryd.prog 134 #[.pointer (some ⟨b,0,none⟩)] w (fun e w'=>e = .returned (.tuple #[])∧(∃ vl' vo' vc' vs',RwL b vl' vo' vc' vs' pw cw ws (readR 8 ws r) w')∧Below b w w'∧Keeps b w w'):=by
 have HN:=hid (show Calls Tryd.prog 131 #[.pointer (some ⟨b,0,none⟩),.int .u64 0,.int .u64 1099511627776] w (RrP b vl vo vc vs pw cw ws (.int .i64 (numberR 0 1099511627776 ws r).1) (numberR 0 1099511627776 ws r).2 w) from number_po 0 1099511627776 (by omega) (by omega) h.rr)
 have HW:=hid h
 have hp:=number_p 0 1099511627776 ws r
 have HK:=hid (show readR 8 ws r=setP (numberR 0 1099511627776 ws r).2 fun p=>{ p with conf:=(numberR 0 1099511627776 ws r).1 } from rfl)
 obtain ⟨⟨z,r2⟩,hz⟩:∃ y,numberR 0 1099511627776 ws r=y:=⟨_,rfl⟩
 rw [hz] at HN HK hp
 have HP:=hid hp
 clear h hz hp
 go_enter Tryd.func134,Tryd.ntmps134
 go_wp2_with (go_at_call 131;(with_reducible refine HN.out.mono ?_);rintro e w1 ⟨rfl,hr1,hb1⟩;have HR1:=hid hr1;have HB1:=hid hb1;have c1:=hr1.box.at 8 rfl;have f1:=hr1.box.fr 8;clear hr1 hb1)
 go_end0
 have HW1:=HW.out.on HR1.out HP.out HB1.out
 refine ⟨rfl,⟨_,_,_,_,by rw [HK.out];exact HW1.setN 8 _ rfl ⟨rfl,rfl,rfl,rfl⟩ rfl⟩,?_⟩
 ·exact ⟨(HB1.out.below (Nat.le_of_lt HW.out.rr.box.lt) fun k e=>Nat.le_of_eq e.symm).setCell (p:=⟨b,8,none⟩) (Nat.le_refl _) _,(Keeps.of_but HB1.out).setB⟩
set_option maxRecDepth 100000 in
set_option maxHeartbeats 4000000 in
theorem kind_1 {b:Nat} {vl vo vc vs:Value} {pw:Option Addr} {cw:Nat} {ws:List Wd} {r:RS} {w:World} (h:RwL b vl vo vc vs pw cw ws r w) (hl:r.p.lv.length≤2000):Calls Tryd.prog 120 #[.pointer (some ⟨b,0,none⟩)] w (fun e w'=>e = .returned (.tuple #[])∧(∃ vl' vo' vc' vs',RwL b vl' vo' vc' vs' pw cw ws (readR 0 ws r) w')∧Below b w w'∧Keeps b w w'):=by
 obtain ⟨pl,cl,rfl⟩:=h.gl.slc
 have HLN0:=hid hl
 obtain ⟨NL,hNL⟩:∃ n,r.p.lv.length=n:=⟨_,rfl⟩
 rw [hNL] at h
 have HMY:=hid (show Calls Tryd.prog 121 #[.pointer (some ⟨b,0,none⟩),.int .i64 (NL:Int),.int .i64 32] w (RrP b (.slice pl NL cl) vo vc vs pw cw ws (.tuple #[]) (manyR NL 32 ws r) w) from many_po NL 32 h.rr)
 have HK0:=hid (show readR 0 ws r=setP (newR r.p.lv ws (manyR NL 32 ws r)).2 (fun p=>{ p with lv:=p.lv++[(newR r.p.lv ws (manyR NL 32 ws r)).1.1] }) from by rw [← hNL];rfl)
 have hp:=many_p NL 32 ws r
 obtain ⟨r1,hr1⟩:∃ y,manyR NL 32 ws r=y:=⟨_,rfl⟩
 rw [hr1] at HMY hp HK0
 have hp2:=name_p ws r1
 have HNF:=hid (show newR r.p.lv ws r1=newQ r.p.lv (nameR ws r1) from rfl)
 obtain ⟨⟨x,r2⟩,hxr⟩:∃ y,nameR ws r1=y:=⟨_,rfl⟩
 have HXR:=hid hxr
 rw [hxr] at hp2 HNF
 have hp3:r2.p=r.p:=hp2.trans hp
 rw [HNF.out] at HK0
 have HW:=hid h;have HP:=hid hp;have HP3:=hid hp3
 have c0:=h.rr.box.at 0 rfl
 have HLN:=hid (show NL≤2000 by rw [← hNL];exact hl)
 have HNL:=hid hNL
 clear h hl hr1 hp hp2 hp3 hxr hNL
 go_enter Tryd.func120,Tryd.ntmps120
 go_upto_region 2 with (first
  | (go_at_call 121;(with_reducible refine HMY.out.mono ?_);rintro e wa ⟨rfl,hra,hba⟩;have HWa:=hid (HW.out.on hra HP.out hba);have HBa:=hid hba;have HNA:=hid (name_po hra);rw [HXR.out] at HNA;clear hra hba)
  | (go_at_call 122;(with_reducible refine HNA.out.mono ?_);rintro e w1 ⟨rfl,hr1,hb1⟩;have HW1:=hid (HW.out.on hr1 HP3.out (HBa.out.trans hb1));have HB1:=hid (HBa.out.trans hb1);clear hr1 hb1))
 clear c0
 obtain ⟨q,hq⟩:∃ q,w1.heap.size=q:=⟨_,rfl⟩
 obtain ⟨w3,hw3⟩:∃ W,w1.alloc (.cells #[.string ⟨x.1.toArray⟩,.int .i64 (x.2.1:Int),.int .i64 (x.2.2:Int)] 97)=W:=⟨_,rfl⟩
 rw [hw3,hq]
 have HW3:=hid (show RwL b (.slice pl NL cl) vo vc vs pw cw ws r2 w3 from by rw [← hw3];exact HW1.out.below ((Below.refl _ _).alloc (Nat.le_refl _) _))
 have HB3:=hid (show But (fun i=>i=b) w w3 from by rw [← hw3];exact HB1.out.al _)
 have HX3:=hid (show BxL 97 q [.string ⟨x.1.toArray⟩,.int .i64 (x.2.1:Int),.int .i64 (x.2.2:Int)] w3 from by rw [← hw3,← hq];exact BxL.new _ _ _)
 have HBQ:=hid (show b<q from by rw [← hq];exact HW1.out.rr.box.lt)
 clear hw3 hq
 have HON:=hid (fun W (hW:But (fun i=>i=b) w3 W)=>(HX3.out.but hW (Nat.ne_of_gt HBQ.out)).p3)
 obtain ⟨x0,x1,x2⟩:=HX3.out.p3
 have HLV:=hid (fun W (hW:But (fun i=>i=b) w3 W)=>HW3.out.lvs (by rw [show r2.p=r.p from HP3.out];have:=HLN0.out;omega) W hW)
 have hS:(fun W:World=>W.cell? ⟨b,0,none⟩=some (.slice pl NL cl)∧W.cell? ⟨q,0,none⟩=some (.string ⟨x.1.toArray⟩)) w3.drew:=⟨HW3.out.rr.box.at 0 rfl,(HON.out w3.drew (But.refl _ w3).dr).1⟩
 have hFa:=fT
 refine rgN (fun W:World=>W.cell? ⟨b,0,none⟩=some (.slice pl NL cl)∧W.cell? ⟨q,0,none⟩=some (.string ⟨x.1.toArray⟩)) 8 (by kernel_rfl) ?_
 simp only [List.size_toArray,List.length_cons,List.length_nil,Nat.reduceAdd]
 iterate 7 (refine wpHJ_nx (v:=?_) 8 rfl rfl (by kernel_rfl) nE hS ?_ ?_;rotate_left;(focus refine Or.inl ⟨by rfl,?_⟩;rintro w' ⟨s0,s1⟩;go_simp;try rfl);simp only [Act.put,actP,actQ])
 refine wpHJ_only 7 (by kernel_rfl) rfl (fun K hK=>?_)
 go_simp
 (with_reducible refine (callsIn_wide.2 (contains_any r2.p.lv x.1 (.slice pl NL cl) _ _ (HLV.out _ ((But.refl _ w3).dr)))).mono ?_)
 rintro e w4 ⟨rfl,rfl⟩
 refine hK _ _ (.inr (.inr hS)) ?_
 clear hK K
 refine wpHJ_done (by kernel_rfl) ?_ _
 simp only [onlyN,Exit.then]
 clear hFa
 clear hS
 by_cases hc:r2.p.lv.contains x.1=true
 ·have HK:=hid (show readR 0 ws r=setP (failR r2 (wpos x) 8) (fun p=>{ p with lv:=p.lv++[x.1] }) from by rw [HK0.out];unfold newQ;rw [← HP3.out,if_pos hc])
  rw [hc]
  have HFA:=hid (show Calls Tryd.prog 51 #[.pointer (some ⟨b,0,none⟩),.agg #[.int .i64 (x.2.1:Int),.int .i64 (x.2.2:Int)],.int .i64 8] w3.drew (RrP b (.slice pl NL cl) vo vc vs pw cw ws (.tuple #[]) (failR r2 (wpos x) 8) w3.drew) from fail_po (wpos x) 8 HW3.out.rr.dr)
  clear hc
  go_upto_region 4 with (go_at_call 51;(with_reducible refine HFA.out.mono ?_);rintro e wz ⟨rfl,hrz,hbz⟩;have HWz:=hid (HW3.out.on hrz (failR_p _ _ _) ((But.refl _ w3).dr.trans hbz));have HBz:=hid ((But.refl _ w3).dr.trans hbz);clear hrz hbz)
  obtain ⟨r5,hr5⟩:∃ r5,failR r2 (wpos x) 8=r5:=⟨_,rfl⟩
  have HP5:=hid (show r5.p=r2.p from by rw [← hr5];exact failR_p _ _ _)
  rw [hr5] at HWz HK
  clear hr5
  have HLN5:=hid (show r5.p.lv.length≤2000 from by rw [HP5.out,HP3.out];exact HLN0.out)
  have HLN:=HLN5
  have HBA:=hid (show Below b w wz from ((HB3.out.trans HBz.out).below (Nat.le_of_lt HW.out.rr.box.lt) (fun k e=>Nat.le_of_eq e.symm)))
  have hS:(fun W:World=>W.cell? ⟨b,0,none⟩=some (.slice pl NL cl)∧W.cell? ⟨q,0,none⟩=some (.string ⟨x.1.toArray⟩)) wz.drew:=⟨HWz.out.rr.box.at 0 rfl,(HON.out wz.drew HBz.out.dr).1⟩
  have hFa:=fT
  refine rgN (fun W:World=>W.cell? ⟨b,0,none⟩=some (.slice pl NL cl)∧W.cell? ⟨q,0,none⟩=some (.string ⟨x.1.toArray⟩)) 13 (by kernel_rfl) ?_
  simp only [List.size_toArray,List.length_cons,List.length_nil,Nat.reduceAdd]
  iterate 8 (refine wpHJ_nx (v:=?_) 14 rfl rfl (by kernel_rfl) nE hS ?_ ?_;rotate_left;(focus refine Or.inl ⟨by rfl,?_⟩;rintro w' ⟨s0,s1⟩;go_simp;try rfl);simp only [Act.put,actP,actQ])
  refine wpHJ_only 8 (by kernel_rfl) rfl (fun K hK=>?_)
  go_simp
  obtain ⟨w6,hw⟩:∃ W,(wz.alloc (.cells #[.string ⟨x.1.toArray⟩] 9)).drew=W:=⟨_,rfl⟩
  rw [hw]
  have HB6:=hid (show Below wz.heap.size wz w6 from by rw [← hw];exact ((Below.refl _ _).alloc (Nat.le_refl _) _).drew)
  have HY6:=hid (show BxL 9 wz.heap.size [.string ⟨x.1.toArray⟩] w6 from by rw [← hw];exact BxL.new _ _ _)
  have HW6:=hid (HWz.out.below HB6.out)
  have hS6:(fun W:World=>W.cell? ⟨b,0,none⟩=some (.slice pl NL cl)∧W.cell? ⟨q,0,none⟩=some (.string ⟨x.1.toArray⟩)) w6:=⟨HW6.out.rr.box.at 0 rfl,(HON.out w6 (HBz.out.trans (But.of_below _ HB6.out))).1⟩
  clear hw hS
  refine hK _ _ (.inr (.inr hS6)) ?_
  clear hK K
  refine wpHJ_only 9 (by kernel_rfl) rfl (fun K hK=>?_)
  refine wpIn_pushB (R:=NoR) (B:=b+1) (K:=kStr) (v := .slice pl NL cl) (l:=r5.p.lv) (x:=x.1) (cs:=[.string ⟨x.1.toArray⟩]) (te:=9) hFa (.tmp 30) (.tmp 33) 22 rfl Tryd.underlying22 _ 16 info_strE rfl HW6.out.gl (fun i hi=>hi.elim) rfl HY6.out (by rfl) (by rfl) (by have:=HLN.out;omega) (by have:=HLN.out;unfold maxLen;omega) HW6.out.rr.box.lt ?_
  intro v' w7 hg7 hgr hm7
  obtain ⟨p9,c9,hv9⟩:=hg7.slc
  obtain ⟨n9,hn9⟩:∃ n,(r5.p.lv++[x.1]).length=n:=⟨_,rfl⟩
  rw [hn9] at hv9
  subst hv9
  clear hn9
  have HPUT:=hid (HW6.out.putLv hgr hm7 hg7)
  have HBW:=hid (show Below b w w7 from (HBA.out.trans ((show Below b wz w6 from HB6.out.mono (Nat.le_of_lt HWz.out.rr.box.lt)))).trans ⟨hgr.os,hgr.tape,hgr.output,hgr.size,fun i hi=>hgr.block i (Nat.lt_trans hi HW6.out.rr.box.lt) fun e=>by have:=(HW6.out.gl.lt i e.symm).1;omega⟩)
  have hbx:=HW6.out.rr.box.keep (hgr.block b HW6.out.rr.box.lt fun e=>by have:=(HW6.out.gl.lt b e.symm).1;omega)
  have c0:=hbx.at 0 rfl
  have f0:=hbx.fr 0
  have HKE:=hid (((Keeps.of_but (HB3.out.trans HBz.out)).trans (Keeps.of_but (But.of_below _ HB6.out))).trans (Keeps.of_grown HW6.out.gl hgr (.inl rfl)))
  have hq7:w7.heap[q]?=w6.heap[q]?:=hgr.block q (by have:=HX3.out.lt;have h1:=HBz.out.size;have h2:=HB6.out.size;exact Nat.lt_of_lt_of_le (Nat.lt_of_lt_of_le this h1) h2) (fun e=>by
   have h1:BxL 97 q [.string ⟨x.1.toArray⟩,.int .i64 (x.2.1:Int),.int .i64 (x.2.2:Int)] w6:=HX3.out.but (HBz.out.trans (But.of_below _ HB6.out)) (Nat.ne_of_gt HBQ.out)
   exact own_ne HW6.out.gl h1 (by decide) e.symm)
  have hS7:(fun W:World=>W.cell? ⟨b,0,none⟩=some (.slice pl NL cl)∧W.cell? ⟨q,0,none⟩=some (.string ⟨x.1.toArray⟩)) w7:=⟨c0,((HX3.out.but (HBz.out.trans (But.of_below _ HB6.out)) (Nat.ne_of_gt HBQ.out)).keep hq7).at 0 rfl⟩
  clear hg7 hgr hm7 hbx hq7 hS6
  refine hK _ _ (.inr (.inr hS7)) ?_
  clear hK K
  iterate 2 (refine wpHJ_np (v:=?_) 14 rfl rfl (by kernel_rfl) nE (.inr hS7) ?_ ?_;rotate_left;(focus refine Or.inl ⟨by rfl,?_⟩;rintro w' _;go_simp;try rfl);simp only [Act.put,actP,actQ])
  (refine wpHJ_nx (v:=?_) 14 rfl rfl (by kernel_rfl) nE hS7 ?_ ?_;rotate_left;(focus refine Or.inl ⟨by rfl,?_⟩;rintro w' ⟨s0,s1⟩;go_simp;try rfl);simp only [Act.put,actP,actQ])
  refine wpHJ_only 13 (by kernel_rfl) rfl (fun K hK=>?_)
  go_simp
  refine hK _ _ (.inl rfl) ?_
  clear hK K
  refine wpHJ_done (by kernel_rfl) ?_ _
  simp only [onlyN,Exit.then]
  clear hFa
  clear hS7
  generalize hw8:World.setCell _ _ _=w8
  go_end0
  refine ⟨rfl,⟨_,_,_,_,by rw [HK.out,← hw8];exact HPUT.out⟩,?_⟩
  rw [← hw8]
  exact ⟨HBW.out.setCell (p:=⟨b,0,none⟩) (Nat.le_refl _) _,HKE.out.setB⟩
 ·have HK:=hid (show readR 0 ws r=setP r2 (fun p=>{ p with lv:=p.lv++[x.1] }) from by rw [HK0.out];unfold newQ;rw [← HP3.out,if_neg hc])
  rw [Bool.not_eq_true] at hc
  rw [hc]
  clear hc
  go_upto_region 4 with fail
  obtain ⟨wz,hwz⟩:∃ W,w3.drew=W:=⟨_,rfl⟩
  have HWz:=hid (show RwL b (.slice pl NL cl) vo vc vs pw cw ws r2 wz from by rw [← hwz];exact HW3.out.below (Below.refl _ _).drew)
  have HBz:=hid (show But (fun i=>i=b) w3 wz from by rw [← hwz];exact (But.refl _ w3).dr)
  rw [hwz]
  clear hwz
  obtain ⟨r5,hr5⟩:∃ r5,r2=r5:=⟨_,rfl⟩
  have HP5:=hid (show r5.p=r2.p from by rw [← hr5])
  rw [hr5] at HWz HK
  clear hr5
  have HLN5:=hid (show r5.p.lv.length≤2000 from by rw [HP5.out,HP3.out];exact HLN0.out)
  have HLN:=HLN5
  have HBA:=hid (show Below b w wz from ((HB3.out.trans HBz.out).below (Nat.le_of_lt HW.out.rr.box.lt) (fun k e=>Nat.le_of_eq e.symm)))
  have hS:(fun W:World=>W.cell? ⟨b,0,none⟩=some (.slice pl NL cl)∧W.cell? ⟨q,0,none⟩=some (.string ⟨x.1.toArray⟩)) wz.drew:=⟨HWz.out.rr.box.at 0 rfl,(HON.out wz.drew HBz.out.dr).1⟩
  have hFa:=fT
  refine rgN (fun W:World=>W.cell? ⟨b,0,none⟩=some (.slice pl NL cl)∧W.cell? ⟨q,0,none⟩=some (.string ⟨x.1.toArray⟩)) 13 (by kernel_rfl) ?_
  simp only [List.size_toArray,List.length_cons,List.length_nil,Nat.reduceAdd]
  iterate 8 (refine wpHJ_nx (v:=?_) 14 rfl rfl (by kernel_rfl) nE hS ?_ ?_;rotate_left;(focus refine Or.inl ⟨by rfl,?_⟩;rintro w' ⟨s0,s1⟩;go_simp;try rfl);simp only [Act.put,actP,actQ])
  refine wpHJ_only 8 (by kernel_rfl) rfl (fun K hK=>?_)
  go_simp
  obtain ⟨w6,hw⟩:∃ W,(wz.alloc (.cells #[.string ⟨x.1.toArray⟩] 9)).drew=W:=⟨_,rfl⟩
  rw [hw]
  have HB6:=hid (show Below wz.heap.size wz w6 from by rw [← hw];exact ((Below.refl _ _).alloc (Nat.le_refl _) _).drew)
  have HY6:=hid (show BxL 9 wz.heap.size [.string ⟨x.1.toArray⟩] w6 from by rw [← hw];exact BxL.new _ _ _)
  have HW6:=hid (HWz.out.below HB6.out)
  have hS6:(fun W:World=>W.cell? ⟨b,0,none⟩=some (.slice pl NL cl)∧W.cell? ⟨q,0,none⟩=some (.string ⟨x.1.toArray⟩)) w6:=⟨HW6.out.rr.box.at 0 rfl,(HON.out w6 (HBz.out.trans (But.of_below _ HB6.out))).1⟩
  clear hw hS
  refine hK _ _ (.inr (.inr hS6)) ?_
  clear hK K
  refine wpHJ_only 9 (by kernel_rfl) rfl (fun K hK=>?_)
  refine wpIn_pushB (R:=NoR) (B:=b+1) (K:=kStr) (v := .slice pl NL cl) (l:=r5.p.lv) (x:=x.1) (cs:=[.string ⟨x.1.toArray⟩]) (te:=9) hFa (.tmp 30) (.tmp 33) 22 rfl Tryd.underlying22 _ 16 info_strE rfl HW6.out.gl (fun i hi=>hi.elim) rfl HY6.out (by rfl) (by rfl) (by have:=HLN.out;omega) (by have:=HLN.out;unfold maxLen;omega) HW6.out.rr.box.lt ?_
  intro v' w7 hg7 hgr hm7
  obtain ⟨p9,c9,hv9⟩:=hg7.slc
  obtain ⟨n9,hn9⟩:∃ n,(r5.p.lv++[x.1]).length=n:=⟨_,rfl⟩
  rw [hn9] at hv9
  subst hv9
  clear hn9
  have HPUT:=hid (HW6.out.putLv hgr hm7 hg7)
  have HBW:=hid (show Below b w w7 from (HBA.out.trans ((show Below b wz w6 from HB6.out.mono (Nat.le_of_lt HWz.out.rr.box.lt)))).trans ⟨hgr.os,hgr.tape,hgr.output,hgr.size,fun i hi=>hgr.block i (Nat.lt_trans hi HW6.out.rr.box.lt) fun e=>by have:=(HW6.out.gl.lt i e.symm).1;omega⟩)
  have hbx:=HW6.out.rr.box.keep (hgr.block b HW6.out.rr.box.lt fun e=>by have:=(HW6.out.gl.lt b e.symm).1;omega)
  have c0:=hbx.at 0 rfl
  have f0:=hbx.fr 0
  have HKE:=hid (((Keeps.of_but (HB3.out.trans HBz.out)).trans (Keeps.of_but (But.of_below _ HB6.out))).trans (Keeps.of_grown HW6.out.gl hgr (.inl rfl)))
  have hq7:w7.heap[q]?=w6.heap[q]?:=hgr.block q (by have:=HX3.out.lt;have h1:=HBz.out.size;have h2:=HB6.out.size;exact Nat.lt_of_lt_of_le (Nat.lt_of_lt_of_le this h1) h2) (fun e=>by
   have h1:BxL 97 q [.string ⟨x.1.toArray⟩,.int .i64 (x.2.1:Int),.int .i64 (x.2.2:Int)] w6:=HX3.out.but (HBz.out.trans (But.of_below _ HB6.out)) (Nat.ne_of_gt HBQ.out)
   exact own_ne HW6.out.gl h1 (by decide) e.symm)
  have hS7:(fun W:World=>W.cell? ⟨b,0,none⟩=some (.slice pl NL cl)∧W.cell? ⟨q,0,none⟩=some (.string ⟨x.1.toArray⟩)) w7:=⟨c0,((HX3.out.but (HBz.out.trans (But.of_below _ HB6.out)) (Nat.ne_of_gt HBQ.out)).keep hq7).at 0 rfl⟩
  clear hg7 hgr hm7 hbx hq7 hS6
  refine hK _ _ (.inr (.inr hS7)) ?_
  clear hK K
  iterate 2 (refine wpHJ_np (v:=?_) 14 rfl rfl (by kernel_rfl) nE (.inr hS7) ?_ ?_;rotate_left;(focus refine Or.inl ⟨by rfl,?_⟩;rintro w' _;go_simp;try rfl);simp only [Act.put,actP,actQ])
  (refine wpHJ_nx (v:=?_) 14 rfl rfl (by kernel_rfl) nE hS7 ?_ ?_;rotate_left;(focus refine Or.inl ⟨by rfl,?_⟩;rintro w' ⟨s0,s1⟩;go_simp;try rfl);simp only [Act.put,actP,actQ])
  refine wpHJ_only 13 (by kernel_rfl) rfl (fun K hK=>?_)
  go_simp
  refine hK _ _ (.inl rfl) ?_
  clear hK K
  refine wpHJ_done (by kernel_rfl) ?_ _
  simp only [onlyN,Exit.then]
  clear hFa
  clear hS7
  generalize hw8:World.setCell _ _ _=w8
  go_end0
  refine ⟨rfl,⟨_,_,_,_,by rw [HK.out,← hw8];exact HPUT.out⟩,?_⟩
  rw [← hw8]
  exact ⟨HBW.out.setCell (p:=⟨b,0,none⟩) (Nat.le_refl _) _,HKE.out.setB⟩
set_option maxRecDepth 100000 in
set_option maxHeartbeats 4000000 in
theorem kind_2 {b:Nat} {vl vo vc vs:Value} {pw:Option Addr} {cw:Nat} {ws:List Wd} {r:RS} {w:World} (h:RwL b vl vo vc vs pw cw ws r w) (hl:r.p.lv.length≤2000) (ho:r.p.od.length≤2000):Calls Tryd.prog 123 #[.pointer (some ⟨b,0,none⟩)] w (fun e w'=>e = .returned (.tuple #[])∧(∃ vl' vo' vc' vs',RwL b vl' vo' vc' vs' pw cw ws (readR 1 ws r) w')∧Below b w w'∧Keeps b w w'):=by
 obtain ⟨po,co,rfl⟩:=h.go.slc
 obtain ⟨NO,hNO⟩:∃ n,r.p.od.length=n:=⟨_,rfl⟩
 have HLN:=hid ho
 rw [hNO] at h
 have HLV:=hid (h.lvs (by omega))
 have HMY:=hid (show Calls Tryd.prog 121 #[.pointer (some ⟨b,0,none⟩),.int .i64 (NO:Int),.int .i64 1024] w (RrP b vl (.slice po NO co) vc vs pw cw ws (.tuple #[]) (manyR NO 1024 ws r) w) from many_po NO 1024 h.rr)
 have hp:=many_p NO 1024 ws r
 have HK:=hid (show readR 1 ws r=setP (levelR ws (levelR ws (manyR NO 1024 ws r)).2).2 (fun p=>{ p with od:=p.od++[((levelR ws (manyR NO 1024 ws r)).1,(levelR ws (levelR ws (manyR NO 1024 ws r)).2).1)] }) from by rw [← hNO];rfl)
 obtain ⟨r1,hr1⟩:∃ y,manyR NO 1024 ws r=y:=⟨_,rfl⟩
 rw [hr1] at HMY hp HK
 have hp2:=level_p ws r1
 have HLA:=hid (fun W (hr:Rr b vl (.slice po NO co) vc vs pw cw ws r1 W) (hv:∀ W',But (fun i=>i=b) W W'→SlG kStr (fun _=>True) W' vl r1.p.lv)=>level_po hr hv)
 obtain ⟨⟨i,r2⟩,hx2⟩:∃ y,levelR ws r1=y:=⟨_,rfl⟩
 rw [hx2] at HK hp2 HLA
 have hp3:=level_p ws r2
 have HLB:=hid (fun W (hr:Rr b vl (.slice po NO co) vc vs pw cw ws r2 W) (hv:∀ W',But (fun i=>i=b) W W'→SlG kStr (fun _=>True) W' vl r2.p.lv)=>level_po hr hv)
 obtain ⟨⟨j,r4⟩,hx4⟩:∃ y,levelR ws r2=y:=⟨_,rfl⟩
 rw [hx4] at HK hp3 HLB
 dsimp only at HK hp2 hp3
 have HW:=hid h;have HP:=hid hp;have HP2:=hid (show r2.p=r.p from hp2.trans hp);have HP4':=hid (show r4.p=r2.p from hp3)
 have HLN5:=hid (show r4.p.od.length≤2000 from by rw [show r4.p=r.p from hp3.trans (hp2.trans hp)];exact ho)
 have c1:=h.rr.box.at 1 rfl
 clear h hl ho hr1 hp hp2 hp3 hx2 hx4 hNO
 go_enter Tryd.func123,Tryd.ntmps123
 go_upto_region 2 with (first
  | (go_at_call 121;(with_reducible refine HMY.out.mono ?_);rintro e wa ⟨rfl,hra,hba⟩;have HBa:=hid hba;have HLa:=hid (HLA.out wa hra (fun W hW=>by rw [show r1.p=r.p from HP.out];exact HLV.out W (HBa.out.trans hW)));clear hra hba)
  | (go_at_call 124;(with_reducible refine HLa.out.mono ?_);rintro e w1 ⟨rfl,hr1,hb1⟩;have HW1:=hid (HW.out.on hr1 HP2.out (HBa.out.trans hb1));have HB1:=hid (HBa.out.trans hb1);clear hr1 hb1))
 clear c1
 have HP4:=HP4'
 have HLb:=hid (HLB.out w1.drew HW1.out.rr.dr (fun W hW=>by rw [show r2.p=r.p from HP2.out];exact HLV.out W (HB1.out.dr.trans hW)))
 have hS:(fun W:World=>W.cell? ⟨b,1,none⟩=some (.slice po NO co)) w1.drew:=HW1.out.rr.box.at 1 rfl
 have hFa:=fT
 refine rgN (fun W:World=>W.cell? ⟨b,1,none⟩=some (.slice po NO co)) 15 (by kernel_rfl) ?_
 simp only [List.size_toArray,List.length_cons,List.length_nil,Nat.reduceAdd]
 iterate 8 (refine wpHJ_nx (v:=?_) 16 rfl rfl (by kernel_rfl) nE hS ?_ ?_;rotate_left;(focus refine Or.inl ⟨by rfl,?_⟩;rintro w' s0;go_simp;try rfl);simp only [Act.put,actP,actQ])
 refine wpHJ_only 8 (by kernel_rfl) rfl (fun K hK=>?_)
 go_simp
 (with_reducible refine (callsIn_wide.2 HLb.out).mono ?_)
 rintro e w4 ⟨rfl,hr4,hb4⟩
 have HW4:=hid ((HW1.out.below (Below.refl _ _).drew).on hr4 HP4.out hb4)
 have HB4:=hid (HB1.out.dr.trans hb4)
 have hS4:(fun W:World=>W.cell? ⟨b,1,none⟩=some (.slice po NO co)) w4:=hr4.box.at 1 rfl
 clear hr4 hb4 hS
 refine hK _ _ (.inr (.inr hS4)) ?_
 clear hK K
 (refine wpHJ_nx (v:=?_) 16 rfl rfl (by kernel_rfl) nE hS4 ?_ ?_;rotate_left;(focus refine Or.inl ⟨by rfl,?_⟩;rintro w' s0;go_simp;try rfl);simp only [Act.put,actP,actQ])
 refine wpHJ_only 10 (by kernel_rfl) rfl (fun K hK=>?_)
 go_simp
 obtain ⟨w6,hw⟩:∃ W,w4.alloc (.cells #[.int .i64 i,.int .i64 j] 58)=W:=⟨_,rfl⟩
 rw [hw]
 have HB6:=hid (show Below w4.heap.size w4 w6 from by rw [← hw];exact (Below.refl _ _).alloc (Nat.le_refl _) _)
 have HY6:=hid (show BxL 58 w4.heap.size [.int .i64 i,.int .i64 j] w6 from by rw [← hw];exact BxL.new _ _ _)
 have HW6:=hid (HW4.out.below HB6.out)
 have hS6:(fun W:World=>W.cell? ⟨b,1,none⟩=some (.slice po NO co)) w6:=HW6.out.rr.box.at 1 rfl
 clear hw hS4
 refine hK _ _ (.inr (.inr hS6)) ?_
 clear hK K
 refine wpHJ_only 11 (by kernel_rfl) rfl (fun K hK=>?_)
 refine wpIn_pushB (R:=NoR) (B:=b+1) (K:=kPair) (v := .slice po NO co) (l:=r4.p.od) (x:=(i,j)) (cs:=[.int .i64 i,.int .i64 j]) (te:=58) hFa (.tmp 18) (.tmp 23) 23 rfl Tryd.underlying23 _ 16 info_prE rfl HW6.out.go (fun i hi=>hi.elim) rfl HY6.out (by rfl) (by rfl) (by have:=HLN5.out;omega) (by have:=HLN5.out;unfold maxLen;omega) HW6.out.rr.box.lt ?_
 intro v' w7 hg7 hgr hm7
 obtain ⟨p9,c9,hv9⟩:=hg7.slc
 obtain ⟨n9,hn9⟩:∃ n,(r4.p.od++[(i,j)]).length=n:=⟨_,rfl⟩
 rw [hn9] at hv9
 subst hv9
 clear hn9
 have HPUT:=hid (HW6.out.putOd hgr hm7 hg7)
 have HBW:=hid (show Below b w w7 from (((HB4.out.below (Nat.le_of_lt HW.out.rr.box.lt) (fun k e=>Nat.le_of_eq e.symm))).trans ((show Below b w4 w6 from HB6.out.mono (Nat.le_of_lt HW4.out.rr.box.lt)))).trans ⟨hgr.os,hgr.tape,hgr.output,hgr.size,fun i hi=>hgr.block i (Nat.lt_trans hi HW6.out.rr.box.lt) fun e=>by have:=(HW6.out.go.lt i e.symm).1;omega⟩)
 have hbx:=HW6.out.rr.box.keep (hgr.block b HW6.out.rr.box.lt fun e=>by have:=(HW6.out.go.lt b e.symm).1;omega)
 have c1:=hbx.at 1 rfl
 have f1:=hbx.fr 1
 have HKE:=hid (((Keeps.of_but HB4.out).trans (Keeps.of_but (But.of_below _ HB6.out))).trans (Keeps.of_grown HW6.out.go hgr (.inr (.inl rfl))))
 have hS7:(fun W:World=>W.cell? ⟨b,1,none⟩=some (.slice po NO co)) w7:=c1
 clear hg7 hgr hm7 hbx hS6
 refine hK _ _ (.inr (.inr hS7)) ?_
 clear hK K
 iterate 2 (refine wpHJ_np (v:=?_) 16 rfl rfl (by kernel_rfl) nE (.inr hS7) ?_ ?_;rotate_left;(focus refine Or.inl ⟨by rfl,?_⟩;rintro w' _;go_simp;try rfl);simp only [Act.put,actP,actQ])
 (refine wpHJ_nx (v:=?_) 16 rfl rfl (by kernel_rfl) nE hS7 ?_ ?_;rotate_left;(focus refine Or.inl ⟨by rfl,?_⟩;rintro w' s0;go_simp;try rfl);simp only [Act.put,actP,actQ])
 refine wpHJ_only 15 (by kernel_rfl) rfl (fun K hK=>?_)
 go_simp
 refine hK _ _ (.inl rfl) ?_
 clear hK K
 refine wpHJ_done (by kernel_rfl) ?_ _
 simp only [onlyN,Exit.then]
 clear hFa
 clear hS7
 generalize hw8:World.setCell _ _ _=w8
 go_end0
 refine ⟨rfl,⟨_,_,_,_,by rw [HK.out,← hw8];exact HPUT.out⟩,?_⟩
 rw [← hw8]
 exact ⟨HBW.out.setCell (p:=⟨b,1,none⟩) (Nat.le_refl _) _,HKE.out.setB⟩
set_option maxRecDepth 100000 in
set_option maxHeartbeats 4000000 in
theorem kind_5 {b:Nat} {vl vo vc vs:Value} {pw:Option Addr} {cw:Nat} {ws:List Wd} {r:RS} {w:World} (h:RwL b vl vo vc vs pw cw ws r w):Calls Tryd.prog 128 #[.pointer (some ⟨b,0,none⟩)] w (fun e w'=>e = .returned (.tuple #[])∧(∃ vl' vo' vc' vs',RwL b vl' vo' vc' vs' pw cw ws (readR 4 ws r) w')∧Below b w w'∧Keeps b w w'):=by
 have HN:=hid (next_po h.rr)
 have hp:=next_p ws r
 have hk0:readR 4 ws r=(if (nextR ws r).1.1 ≠ kSens∧(nextR ws r).1.1 ≠ kInsens then failR (setP (nextR ws r).2 fun p=>{ p with sens:=decide ((nextR ws r).1.1=kSens) }) (wpos (nextR ws r).1) 4 else setP (nextR ws r).2 fun p=>{ p with sens:=decide ((nextR ws r).1.1=kSens) }):=rfl
 obtain ⟨⟨x,r2⟩,hxr⟩:∃ y,nextR ws r=y:=⟨_,rfl⟩
 rw [hxr] at HN hk0 hp
 dsimp only at hk0
 have HK0:=hid hk0
 have HW:=hid h;have HP:=hid hp
 clear h hxr hp hk0
 go_enter Tryd.func128,Tryd.ntmps128
 go_upto_region 1 with (go_at_call 129;(with_reducible refine HN.out.mono ?_);rintro e w1 ⟨rfl,hr1,hb1⟩;have HW1:=hid (HW.out.on hr1 HP.out hb1);have HB1:=hid hb1;clear hr1 hb1)
 obtain ⟨q,hq⟩:∃ q,w1.heap.size=q:=⟨_,rfl⟩
 obtain ⟨w3,hw3⟩:∃ W,w1.alloc (.cells #[.string ⟨x.1.toArray⟩,.int .i64 (x.2.1:Int),.int .i64 (x.2.2:Int)] 97)=W:=⟨_,rfl⟩
 rw [hw3,hq]
 have HW3:=hid (show RwL b vl vo vc vs pw cw ws r2 w3 from by rw [← hw3];exact HW1.out.below ((Below.refl _ _).alloc (Nat.le_refl _) _))
 have HB3:=hid (show But (fun i=>i=b) w w3 from by rw [← hw3];exact HB1.out.al _)
 have HX3:=hid (show BxL 97 q [.string ⟨x.1.toArray⟩,.int .i64 (x.2.1:Int),.int .i64 (x.2.2:Int)] w3 from by rw [← hw3,← hq];exact BxL.new _ _ _)
 have HBQ:=hid (show b<q from by rw [← hq];exact HW1.out.rr.box.lt)
 clear hw3 hq
 have HON:=hid (fun W (hW:But (fun i=>i=b) w3 W)=>(HX3.out.but hW (Nat.ne_of_gt HBQ.out)).p3)
 obtain ⟨x0,x1,x2⟩:=HX3.out.p3
 have c4:=HW3.out.rr.box.at 4 rfl
 have f4:=HW3.out.rr.box.fr 4
 obtain ⟨s1,hs1⟩:∃ s,x.1=s:=⟨_,rfl⟩
 rw [hs1] at x0 HK0
 have KSE:=hid (show kSens=[115,101,110,115,105,116,105,118,101] from rfl)
 have KIN:=hid (show kInsens=[105,110,115,101,110,115,105,116,105,118,101] from rfl)
 obtain ⟨bb,hbb⟩:∃ bb,decide (s1=kSens)=bb:=⟨_,rfl⟩
 have HBB:=hid hbb
 have tS:(s1 == [115,101,110,115,105,116,105,118,101])=bb:=by rw [← hbb,Bool.eq_iff_iff,beq_iff_eq,decide_eq_true_eq,KSE.out]
 have HPUT:=hid (fun (z:Bool)=>HW3.out.setN (r2:=setP r2 fun p=>{ p with sens:=z }) 4 (.bool z) rfl ⟨rfl,rfl,rfl,rfl⟩ rfl)
 have HBP:=hid (fun (z:Bool)=>HB3.out.setC (c:=b) (i:=4) (.bool z) (.inl rfl))
 rw [hbb] at HK0
 clear hs1 hbb
 cases bb with
 | true =>
  have HNE:=hid (show s1=kSens from by have:=HBB.out;simpa using this)
  have HK:=hid (show readR 4 ws r=setP r2 fun p=>{ p with sens:=true } from by rw [HK0.out,if_neg (fun e=>e.1 HNE.out)])
  go_wp2_with fail
  go_end0
  exact ⟨rfl,⟨_,_,_,_,by rw [HK.out];exact HPUT.out true⟩,(HBP.out true).below (Nat.le_of_lt HW.out.rr.box.lt) (fun k e=>Nat.le_of_eq e.symm),Keeps.of_but (HBP.out true)⟩
 | false =>
  have HNE:=hid (show s1 ≠ kSens from by have:=HBB.out;simpa using this)
  by_cases hi:s1=kInsens
  ·have tI:(s1 == [105,110,115,101,110,115,105,116,105,118,101])=true:=by rw [hi];decide
   have HK:=hid (show readR 4 ws r=setP r2 fun p=>{ p with sens:=false } from by rw [HK0.out,if_neg (fun e=>e.2 hi)])
   clear hi
   go_wp2_with fail
   go_end0
   exact ⟨rfl,⟨_,_,_,_,by rw [HK.out];exact HPUT.out false⟩,(HBP.out false).below (Nat.le_of_lt HW.out.rr.box.lt) (fun k e=>Nat.le_of_eq e.symm),Keeps.of_but (HBP.out false)⟩
  ·have tI:(s1 == [105,110,115,101,110,115,105,116,105,118,101])=false:=by rw [beq_eq_false_iff_ne];exact fun e=>hi (e.trans KIN.out.symm)
   have HK:=hid (show readR 4 ws r=failR (setP r2 fun p=>{ p with sens:=false }) (wpos x) 4 from by rw [HK0.out,if_pos ⟨HNE.out,hi⟩])
   clear hi
   go_upto_region 3 with fail
   obtain ⟨w4,hw4⟩:∃ W,w3.setCell ⟨b,4,none⟩ (.bool false)=W:=⟨_,rfl⟩
   have HW4:=hid (show RwL b vl vo vc vs pw cw ws (setP r2 fun p=>{ p with sens:=false }) w4 from by rw [← hw4];exact HPUT.out false)
   have HB4:=hid (show But (fun i=>i=b) w3 w4 from by rw [← hw4];exact (But.refl _ w3).setC _ (.inl rfl))
   have HFA:=hid (show Calls Tryd.prog 51 #[.pointer (some ⟨b,0,none⟩),.agg #[.int .i64 (x.2.1:Int),.int .i64 (x.2.2:Int)],.int .i64 4] w4 (RrP b vl vo vc vs pw cw ws (.tuple #[]) (failR (setP r2 fun p=>{ p with sens:=false }) (wpos x) 4) w4) from fail_po (wpos x) 4 HW4.out.rr)
   obtain ⟨y0,y1,y2⟩:=HON.out _ HB4.out
   rw [hw4]
   clear hw4
   go_wp2_with (go_at_call 51;(with_reducible refine HFA.out.mono ?_);rintro e w5 ⟨rfl,hr5,hb5⟩;have HR5:=hid hr5;have HB5:=hid hb5;clear hr5 hb5)
   go_end0
   exact ⟨rfl,⟨_,_,_,_,by rw [HK.out];exact HW4.out.on HR5.out (failR_p _ _ _) HB5.out⟩,((HB3.out.trans HB4.out).trans HB5.out).below (Nat.le_of_lt HW.out.rr.box.lt) (fun k e=>Nat.le_of_eq e.symm),Keeps.of_but ((HB3.out.trans HB4.out).trans HB5.out)⟩
theorem clos_r (x s:Bs) (z:Int) (b:Nat) (w:World) (hb:w.cell? ⟨b,0,none⟩=some (.string ⟨s.toArray⟩)) :
  Calls Tryd.prog 135 #[.agg #[.string ⟨x.toArray⟩,.int .i64 z],.pointer (some ⟨b,0,none⟩)] w fun e w'=>e = .returned (.bool (decide (x=s)))∧Below w.heap.size w w':=by
 have hbo:∀ o,(w.alloc o).cell? ⟨b,0,none⟩=some (.string ⟨s.toArray⟩):=fun o=>(((Below.refl w.heap.size w).alloc (Nat.le_refl _) o).cell (p:=⟨b,0,none⟩) (cell_size hb)).trans hb
 clear hb
 by_cases h:x=s
 ·subst h
  have t1:(x == x)=true:=beq_self_eq_true x
  have HD:=hid (decide_eq_true (rfl:x=x))
  go_enter Tryd.func135,Tryd.ntmps135
  go_wp2
  go_ret
  exact ⟨by first | rfl | (rw [HD.out];rfl),(Below.refl _ _).alloc (Nat.le_refl _) _⟩
 ·have t1:(x == s)=false:=beq_eq_false_iff_ne.2 h
  have HD:=hid (decide_eq_false h)
  clear h
  go_enter Tryd.func135,Tryd.ntmps135
  go_wp2
  go_ret
  exact ⟨by first | rfl | (rw [HD.out];rfl),(Below.refl _ _).alloc (Nat.le_refl _) _⟩
set_option maxRecDepth 100000 in
set_option maxHeartbeats 4000000 in
theorem idx_r (l:List (Bs × Int)) (s:Bs) (v:Value) (b:Nat) (w:World) (h:SlG kBind (·<w.heap.size) w v l) (hb:w.cell? ⟨b,0,none⟩=some (.string ⟨s.toArray⟩)) :
  Calls Tryd.prog 74 #[v,.func (.func 135) #[] #[.pointer (some ⟨b,0,none⟩)]] w fun e w'=>(∃ z:Int,e = .returned (.int .i64 z)∧decide (0≤z)=(l.map (·.1)).contains s)∧Below w.heap.size w w':=by
 obtain ⟨p,c,rfl⟩:=h.slc
 have HS:=hid h;have HL:=hid h.len;have HB:=hid hb
 clear h hb
 go_enter Tryd.func74,Tryd.ntmps74
 go_wp2
 go_loopw [4,5,8] (fun v4 v5 iv wr=>∃ k:Nat,k≤l.length∧iv = .int .i64 (k:Int)∧(∀ x ∈ (l.take k).map (·.1),x ≠ s)∧Below w.heap.size w wr) (fun _ _ iv _=>l.length - (intOf iv).toNat)
 case atStart=>exact ⟨0,Nat.zero_le _,rfl,(by simp),Below.refl _ _⟩
 case round =>
  obtain ⟨k,hk,rfl,hm,hbr⟩:=hrel
  by_cases hlt:k<l.length
  ·obtain ⟨b0,off,rfl,hR,hcells⟩:=bind_at HS.out (by omega:0<l.length)
   obtain ⟨c0,c1⟩:=hcells k hlt
   have d0:=(hbr.cell (p:=⟨b0,off+k*2,none⟩) hR).trans c0
   have d1:=(hbr.cell (p:=⟨b0,off+k*2+1,none⟩) hR).trans c1
   have HBC:=hid ((hbr.cell (p:=⟨b,0,none⟩) (cell_size HB.out)).trans HB.out)
   have HMEM:=hid (show l[k] ∈ l from List.getElem_mem _)
   have HTK:=hid (show l.take (k+1)=l.take k++[l[k]] by simp)
   have HLT:=hid hlt;have HBR:=hid hbr;have HM:=hid hm
   clear hcells c0 c1 hR hbr hm
   generalize l[k]=f at *
   obtain ⟨fs,fz⟩:=f
   dsimp only at d0 d1
   have HCL:=hid (clos_r fs s fz b wr HBC.out)
   by_cases hf:fs=s
   ·rw [decide_eq_true hf] at HCL
    have HF:=hid hf
    clear hf hlt
    go_wp2_with (go_at_call 135;with_reducible refine HCL.out.mono ?_;rintro e w2 ⟨rfl,hb2⟩;have HB2:=hid (HBR.out.trans (hb2.mono HBR.out.size));clear hb2)
    go_ret
    refine ⟨⟨_,rfl,?_⟩,HB2.out⟩
    rw [decide_eq_true (by omega),eq_comm,List.contains_iff_mem]
    exact List.mem_map.2 ⟨_,HMEM.out,HF.out⟩
   ·rw [decide_eq_false hf] at HCL
    have HF:=hid hf
    clear hf hlt
    go_wp2_with (go_at_call 135;with_reducible refine HCL.out.mono ?_;rintro e w2 ⟨rfl,hb2⟩;have HB2:=hid (HBR.out.trans (hb2.mono HBR.out.size));clear hb2)
    go_roundw
    case rel =>
     refine ⟨k+1,HLT.out,by rw [wrap_next HLT.out HL.out],?_,HB2.out⟩
     rw [HTK.out,List.map_append]
     intro x hx
     rcases List.mem_append.1 hx with hx | hx
     ·exact HM.out x hx
     ·simp at hx;subst hx;exact HF.out
    case measure=>exact meas_next HLT.out HL.out
  ·obtain rfl:k=l.length:=by omega
   have HR:=hid (show (l.map (·.1)).contains s=false from by
    rw [Bool.eq_false_iff]
    intro e
    rw [List.take_length] at hm
    exact hm s (List.contains_iff_mem.1 e) rfl)
   have HBR:=hid hbr
   clear hlt hbr hm
   go_wp2_with fail
   go_ret
   exact ⟨⟨_,rfl,by rw [HR.out];decide⟩,HBR.out⟩
theorem has_r (l:List (Bs × Int)) (s:Bs) (v:Value) (b:Nat) (w:World) (h:SlG kBind (·<w.heap.size) w v l) (hb:w.cell? ⟨b,0,none⟩=some (.string ⟨s.toArray⟩)) :
  Calls Tryd.prog 57 #[v,.func (.func 135) #[] #[.pointer (some ⟨b,0,none⟩)]] w fun e w'=>e = .returned (.bool ((l.map (·.1)).contains s))∧Below w.heap.size w w':=by
 have HC:=hid (idx_r l s v b w h hb)
 obtain ⟨bb,hbb⟩:∃ bb,(l.map (·.1)).contains s=bb:=⟨_,rfl⟩
 rw [hbb] at HC ⊢
 clear h hb hbb
 go_enter Tryd.func57,Tryd.ntmps57
 go_wp2_with (go_at_call 74;(with_reducible refine HC.out.mono ?_);rintro e w1 ⟨⟨z,rfl,hz⟩,hb1⟩;have HB1:=hid hb1;clear hb1)
 go_ret
 exact ⟨by first | rfl | (rw [hz];rfl),HB1.out⟩
set_option maxRecDepth 100000 in
set_option maxHeartbeats 4000000 in
theorem bind_ch {b:Nat} {vl vo vc vs:Value} {pw:Option Addr} {cw:Nat} {ws:List Wd} {r:RS} {w:World} (h:RwL b vl vo vc vs pw cw ws r w) (hl:r.p.lv.length≤2000) (hx:r.p.ch.length≤2000):Calls Tryd.prog 126 #[.pointer (some ⟨b,0,none⟩),vc] w fun e w' =>
  ∃ v',e = .returned v'∧∃ w6,RwL b vl vo vc vs pw cw ws (bindR r.p.ch ws r).2 w6∧But (fun i=>i=b) w w6∧w6.grownBy w' vc.ownBlock∧Moved w6 vc v'∧GR kBind NoR (b+1) 31 w' v' (bindR r.p.ch ws r).1:=by
 obtain ⟨pv,cv,rfl⟩:=h.gc.slc
 obtain ⟨NV,hNV⟩:∃ n,r.p.ch.length=n:=⟨_,rfl⟩
 have HLN:=hid hx
 have HNV:=hid hNV
 rw [hNV] at h ⊢
 have HLV:=hid (h.lvs (by omega))
 have HSV:=hid (fun W (hW:But (fun i=>i=b) w W)=>show SlG kBind (·<W.heap.size) W (.slice pv NV cv) r.p.ch from
  (((h.gc.keepN fun k hk=>hW.block k (h.gc.lt k hk).2 (by have:=(h.gc.lt k hk).1;omega)):GR kBind NoR (b+1) 31 W (.slice pv NV cv) r.p.ch).sl (by omega)).weaken fun k hk=>(hk.resolve_left fun e=>e.elim) |> fun hk=>Nat.lt_of_lt_of_le (h.gc.lt k hk).2 hW.size)
 have HMY:=hid (show Calls Tryd.prog 121 #[.pointer (some ⟨b,0,none⟩),.int .i64 (NV:Int),.int .i64 32] w (RrP b vl vo (.slice pv NV cv) vs pw cw ws (.tuple #[]) (manyR NV 32 ws r) w) from many_po NV 32 h.rr)
 have hp:=many_p NV 32 ws r
 have hk:bindR r.p.ch ws r=(r.p.ch++[((newR (r.p.ch.map (·.1)) ws (manyR NV 32 ws r)).1.1,(levelR ws (newR (r.p.ch.map (·.1)) ws (manyR NV 32 ws r)).2).1)],(levelR ws (newR (r.p.ch.map (·.1)) ws (manyR NV 32 ws r)).2).2):=by rw [← hNV];rfl
 obtain ⟨r1,hr1⟩:∃ y,manyR NV 32 ws r=y:=⟨_,rfl⟩
 rw [hr1] at HMY hp hk
 have hp2:=name_p ws r1
 rw [show newR (r.p.ch.map (·.1)) ws r1=newQ (r.p.ch.map (·.1)) (nameR ws r1) from rfl] at hk
 obtain ⟨⟨x,r2⟩,hxr⟩:∃ y,nameR ws r1=y:=⟨_,rfl⟩
 have HXR:=hid hxr
 rw [hxr] at hp2 hk
 have HW:=hid h;have HP:=hid hp;have HP3:=hid (show r2.p=r.p from hp2.trans hp)
 have hmf:∀ (fn:Fn) (first cap:Array Value) (w:World),(Instr.makeFunc fn first cap).run Tryd.prog w = .ok (.func fn first cap) w:=fun _ _ _ _=>rfl
 have HKK:=hid hk
 clear h hl hx hr1 hp hp2 hxr hk hNV
 go_enter Tryd.func126,Tryd.ntmps126
 go_upto_region 3 with (first
  | (go_at_call 121;(with_reducible refine HMY.out.mono ?_);rintro e wa ⟨rfl,hra,hba⟩;have HBa:=hid hba;have HNA:=hid (name_po hra);rw [HXR.out] at HNA;clear hra hba)
  | (go_at_call 122;(with_reducible refine HNA.out.mono ?_);rintro e w1 ⟨rfl,hr1,hb1⟩;have HW1:=hid (HW.out.on hr1 HP3.out (HBa.out.trans hb1));have HB1:=hid (HBa.out.trans hb1);clear hr1 hb1))
 obtain ⟨q,hq⟩:∃ q,w1.heap.size=q:=⟨_,rfl⟩
 obtain ⟨w3,hw3⟩:∃ W,w1.alloc (.cells #[.string ⟨x.1.toArray⟩,.int .i64 (x.2.1:Int),.int .i64 (x.2.2:Int)] 97)=W:=⟨_,rfl⟩
 rw [hw3,hq]
 have HW3:=hid (show RwL b vl vo (.slice pv NV cv) vs pw cw ws r2 w3 from by rw [← hw3];exact HW1.out.below ((Below.refl _ _).alloc (Nat.le_refl _) _))
 have HB3:=hid (show But (fun i=>i=b) w w3 from by rw [← hw3];exact HB1.out.al _)
 have HX3:=hid (show BxL 97 q [.string ⟨x.1.toArray⟩,.int .i64 (x.2.1:Int),.int .i64 (x.2.2:Int)] w3 from by rw [← hw3,← hq];exact BxL.new _ _ _)
 have HBQ:=hid (show b<q from by rw [← hq];exact HW1.out.rr.box.lt)
 clear hw3 hq
 have HON:=hid (fun W (hW:But (fun i=>i=b) w3 W)=>(HX3.out.but hW (Nat.ne_of_gt HBQ.out)).p3)
 obtain ⟨x0,x1,x2⟩:=HX3.out.p3
 have HCF:=hid (has_r r.p.ch x.1 (.slice pv NV cv) q w3 (HSV.out w3 HB3.out) x0)
 by_cases hc:(r.p.ch.map (·.1)).contains x.1=true
 ·have hk:=HKK.out
  unfold newQ at hk
  dsimp only at hk
  rw [if_pos hc] at hk
  rw [hc] at HCF
  obtain ⟨r5,hr5⟩:∃ r5,failR r2 (wpos x) 8=r5:=⟨_,rfl⟩
  have HP5:=hid (show r5.p=r2.p from by rw [← hr5];exact failR_p _ _ _)
  rw [hr5] at hk
  have HK:=hid hk
  have HFA:=hid (fun W (hr:Rr b vl vo (.slice pv NV cv) vs pw cw ws r2 W)=>show Calls Tryd.prog 51 #[.pointer (some ⟨b,0,none⟩),.agg #[.int .i64 (x.2.1:Int),.int .i64 (x.2.2:Int)],.int .i64 8] W (RrP b vl vo (.slice pv NV cv) vs pw cw ws (.tuple #[]) r5 W) from by rw [← hr5];exact fail_po (wpos x) 8 hr)
  clear hc hk hr5
  go_upto_region 5 with (first
   | (go_at_call 57;(with_reducible refine HCF.out.mono ?_);rintro e w4 ⟨rfl,hb4⟩;have HW4:=hid (HW3.out.below hb4);have HB4:=hid (But.of_below (fun i=>i=b) hb4);obtain ⟨y0,y1,y2⟩:=HON.out _ HB4.out;have HFa:=hid (HFA.out w4 HW4.out.rr);clear hb4)
   | (go_at_call 51;(with_reducible refine HFa.out.mono ?_);rintro e wz ⟨rfl,hrz,hbz⟩;have HWz:=hid (HW4.out.on hrz HP5.out hbz);have HBz3:=hid (HB4.out.trans hbz);have HBz:=hid (HB3.out.trans (HB4.out.trans hbz));clear hrz hbz))
  clear y0 y1 y2
  have hp6:=level_p ws r5
  have HLB:=hid (fun W (hr:Rr b vl vo (.slice pv NV cv) vs pw cw ws r5 W) (hv:∀ W',But (fun i=>i=b) W W'→SlG kStr (fun _=>True) W' vl r5.p.lv)=>level_po hr hv)
  obtain ⟨⟨z,r6⟩,hx6⟩:∃ y,levelR ws r5=y:=⟨_,rfl⟩
  rw [hx6] at hp6 HK HLB
  have HP6:=hid (show r6.p=r5.p from hp6)
  have HLN6:=hid (show r6.p.ch.length≤2000 from by rw [show r6.p=r.p from hp6.trans (HP5.out.trans HP3.out)];exact HLN.out)
  have HPF:=hid (show r6.p.ch=r.p.ch from by rw [show r6.p=r.p from hp6.trans (HP5.out.trans HP3.out)])
  clear hx6 hp6
  have HLb:=hid (HLB.out wz.drew HWz.out.rr.dr (fun W hW=>by rw [show r5.p=r.p from HP5.out.trans HP3.out];exact HLV.out W (HBz.out.dr.trans hW)))
  have HX5:=hid (fun W (hW:But (fun i=>i=b) w3 W)=>HX3.out.but hW (Nat.ne_of_gt HBQ.out))
  have hS:(fun W:World=>W.cell? ⟨q,0,none⟩=some (.string ⟨x.1.toArray⟩)) wz.drew:=(HON.out wz.drew HBz3.out.dr).1
  have hFa:=fT
  refine rgN (fun W:World=>W.cell? ⟨q,0,none⟩=some (.string ⟨x.1.toArray⟩)) 9 (by kernel_rfl) ?_
  simp only [List.size_toArray,List.length_cons,List.length_nil,Nat.reduceAdd]
  iterate 4 (refine wpHJ_nx (v:=?_) 9 rfl rfl (by kernel_rfl) nE hS ?_ ?_;rotate_left;(focus refine Or.inl ⟨by rfl,?_⟩;rintro w' s0;go_simp;try rfl);simp only [Act.put,actP,actQ])
  refine wpHJ_only 4 (by kernel_rfl) rfl (fun K hK=>?_)
  go_simp
  (with_reducible refine (callsIn_wide.2 HLb.out).mono ?_)
  rintro e w5 ⟨rfl,hr5,hb5⟩
  have HW5:=hid ((HWz.out.below (Below.refl _ _).drew).on hr5 HP6.out hb5)
  have HB5:=hid (HBz.out.dr.trans hb5)
  have HBz5:=hid (HBz3.out.dr.trans hb5)
  have hS5:(fun W:World=>W.cell? ⟨q,0,none⟩=some (.string ⟨x.1.toArray⟩)) w5:=(HON.out w5 (HBz3.out.dr.trans hb5)).1
  clear hr5 hb5 hS
  refine hK _ _ (.inr (.inr hS5)) ?_
  clear hK K
  (refine wpHJ_nx (v:=?_) 9 rfl rfl (by kernel_rfl) nE hS5 ?_ ?_;rotate_left;(focus refine Or.inl ⟨by rfl,?_⟩;rintro w' s0;go_simp;try rfl);simp only [Act.put,actP,actQ])
  refine wpHJ_only 6 (by kernel_rfl) rfl (fun K hK=>?_)
  go_simp
  obtain ⟨w6,hw⟩:∃ W,w5.alloc (.cells #[.string ⟨x.1.toArray⟩,.int .i64 z] 31)=W:=⟨_,rfl⟩
  rw [hw]
  have HB6:=hid (show Below w5.heap.size w5 w6 from by rw [← hw];exact (Below.refl _ _).alloc (Nat.le_refl _) _)
  have HY6:=hid (show BxL 31 w5.heap.size [.string ⟨x.1.toArray⟩,.int .i64 z] w6 from by rw [← hw];exact BxL.new _ _ _)
  have HW6:=hid (HW5.out.below HB6.out)
  have HX6:=hid (show BxL 97 q [.string ⟨x.1.toArray⟩,.int .i64 (x.2.1:Int),.int .i64 (x.2.2:Int)] w6 from (HX5.out w5 HBz5.out).bel HB6.out)
  have hS6:(fun W:World=>W.cell? ⟨q,0,none⟩=some (.string ⟨x.1.toArray⟩)) w6:=HX6.out.at 0 rfl
  clear hw hS5
  refine hK _ _ (.inr (.inr hS6)) ?_
  clear hK K
  refine wpHJ_only 7 (by kernel_rfl) rfl (fun K hK=>?_)
  refine wpIn_pushB (R:=NoR) (B:=b+1) (K:=kBind) (v := .slice pv NV cv) (l:=r6.p.ch) (x:=(x.1,z)) (cs:=[.string ⟨x.1.toArray⟩,.int .i64 z]) (te:=31) hFa (.tmp 19) (.tmp 25) 24 rfl Tryd.underlying24 _ 24 info_bdE rfl HW6.out.gc (fun i hi=>hi.elim) rfl HY6.out (by rfl) (by rfl) (by have:=HLN6.out;omega) (by have:=HLN6.out;unfold maxLen;omega) HW6.out.rr.box.lt ?_
  intro v' w7 hg7 hgr hm7
  obtain ⟨p9,c9,hv9⟩:=hg7.slc
  obtain ⟨n9,hn9⟩:∃ n,(r6.p.ch++[(x.1,z)]).length=n:=⟨_,rfl⟩
  rw [hn9] at hv9
  subst hv9
  clear hn9
  have hS7:(fun W:World=>W.cell? ⟨q,0,none⟩=some (.string ⟨x.1.toArray⟩)) w7:=(HX6.out.keep (hgr.block q HX6.out.lt (fun e=>own_ne HW6.out.gc HX6.out (by decide) e.symm))).at 0 rfl
  have HG7:=hid hg7;have HGR:=hid hgr;have HM7:=hid hm7
  clear hg7 hgr hm7 hS6
  refine hK _ _ (.inr (.inr hS7)) ?_
  clear hK K
  (refine wpHJ_nx (v:=?_) 9 rfl rfl (by kernel_rfl) nE hS7 ?_ ?_;rotate_left;(focus refine Or.inl ⟨by rfl,?_⟩;rintro w' s0;go_simp;try rfl);simp only [Act.put,actP,actQ])
  refine wpHJ_done (by kernel_rfl) ?_ _
  simp only [onlyN,Exit.then]
  clear hFa
  clear hS7
  go_wp2_with fail
  go_ret
  refine ⟨_,rfl,w6,by rw [HK.out];exact HW6.out,HB5.out.trans (But.of_below _ HB6.out),HGR.out,HM7.out,?_⟩
  rw [HK.out]
  show GR kBind NoR (b+1) 31 w7 _ (r.p.ch++[(x.1,z)])
  rw [← HPF.out]
  exact HG7.out
 ·have hk:=HKK.out
  unfold newQ at hk
  dsimp only at hk
  rw [if_neg hc] at hk
  rw [Bool.not_eq_true] at hc
  rw [hc] at HCF
  obtain ⟨r5,hr5⟩:∃ r5,r2=r5:=⟨_,rfl⟩
  have HP5:=hid (show r5.p=r2.p from by rw [← hr5])
  rw [hr5] at hk HW3
  have HK:=hid hk
  clear hc hk hr5
  go_upto_region 5 with (go_at_call 57;(with_reducible refine HCF.out.mono ?_);rintro e wz ⟨rfl,hbz⟩;have HWz:=hid (HW3.out.below hbz);have HBz3:=hid (But.of_below (fun i=>i=b) hbz);have HBz:=hid (HB3.out.trans (But.of_below (fun i=>i=b) hbz));clear hbz)
  have hp6:=level_p ws r5
  have HLB:=hid (fun W (hr:Rr b vl vo (.slice pv NV cv) vs pw cw ws r5 W) (hv:∀ W',But (fun i=>i=b) W W'→SlG kStr (fun _=>True) W' vl r5.p.lv)=>level_po hr hv)
  obtain ⟨⟨z,r6⟩,hx6⟩:∃ y,levelR ws r5=y:=⟨_,rfl⟩
  rw [hx6] at hp6 HK HLB
  have HP6:=hid (show r6.p=r5.p from hp6)
  have HLN6:=hid (show r6.p.ch.length≤2000 from by rw [show r6.p=r.p from hp6.trans (HP5.out.trans HP3.out)];exact HLN.out)
  have HPF:=hid (show r6.p.ch=r.p.ch from by rw [show r6.p=r.p from hp6.trans (HP5.out.trans HP3.out)])
  clear hx6 hp6
  have HLb:=hid (HLB.out wz.drew HWz.out.rr.dr (fun W hW=>by rw [show r5.p=r.p from HP5.out.trans HP3.out];exact HLV.out W (HBz.out.dr.trans hW)))
  have HX5:=hid (fun W (hW:But (fun i=>i=b) w3 W)=>HX3.out.but hW (Nat.ne_of_gt HBQ.out))
  have hS:(fun W:World=>W.cell? ⟨q,0,none⟩=some (.string ⟨x.1.toArray⟩)) wz.drew:=(HON.out wz.drew HBz3.out.dr).1
  have hFa:=fT
  refine rgN (fun W:World=>W.cell? ⟨q,0,none⟩=some (.string ⟨x.1.toArray⟩)) 9 (by kernel_rfl) ?_
  simp only [List.size_toArray,List.length_cons,List.length_nil,Nat.reduceAdd]
  iterate 4 (refine wpHJ_nx (v:=?_) 9 rfl rfl (by kernel_rfl) nE hS ?_ ?_;rotate_left;(focus refine Or.inl ⟨by rfl,?_⟩;rintro w' s0;go_simp;try rfl);simp only [Act.put,actP,actQ])
  refine wpHJ_only 4 (by kernel_rfl) rfl (fun K hK=>?_)
  go_simp
  (with_reducible refine (callsIn_wide.2 HLb.out).mono ?_)
  rintro e w5 ⟨rfl,hr5,hb5⟩
  have HW5:=hid ((HWz.out.below (Below.refl _ _).drew).on hr5 HP6.out hb5)
  have HB5:=hid (HBz.out.dr.trans hb5)
  have HBz5:=hid (HBz3.out.dr.trans hb5)
  have hS5:(fun W:World=>W.cell? ⟨q,0,none⟩=some (.string ⟨x.1.toArray⟩)) w5:=(HON.out w5 (HBz3.out.dr.trans hb5)).1
  clear hr5 hb5 hS
  refine hK _ _ (.inr (.inr hS5)) ?_
  clear hK K
  (refine wpHJ_nx (v:=?_) 9 rfl rfl (by kernel_rfl) nE hS5 ?_ ?_;rotate_left;(focus refine Or.inl ⟨by rfl,?_⟩;rintro w' s0;go_simp;try rfl);simp only [Act.put,actP,actQ])
  refine wpHJ_only 6 (by kernel_rfl) rfl (fun K hK=>?_)
  go_simp
  obtain ⟨w6,hw⟩:∃ W,w5.alloc (.cells #[.string ⟨x.1.toArray⟩,.int .i64 z] 31)=W:=⟨_,rfl⟩
  rw [hw]
  have HB6:=hid (show Below w5.heap.size w5 w6 from by rw [← hw];exact (Below.refl _ _).alloc (Nat.le_refl _) _)
  have HY6:=hid (show BxL 31 w5.heap.size [.string ⟨x.1.toArray⟩,.int .i64 z] w6 from by rw [← hw];exact BxL.new _ _ _)
  have HW6:=hid (HW5.out.below HB6.out)
  have HX6:=hid (show BxL 97 q [.string ⟨x.1.toArray⟩,.int .i64 (x.2.1:Int),.int .i64 (x.2.2:Int)] w6 from (HX5.out w5 HBz5.out).bel HB6.out)
  have hS6:(fun W:World=>W.cell? ⟨q,0,none⟩=some (.string ⟨x.1.toArray⟩)) w6:=HX6.out.at 0 rfl
  clear hw hS5
  refine hK _ _ (.inr (.inr hS6)) ?_
  clear hK K
  refine wpHJ_only 7 (by kernel_rfl) rfl (fun K hK=>?_)
  refine wpIn_pushB (R:=NoR) (B:=b+1) (K:=kBind) (v := .slice pv NV cv) (l:=r6.p.ch) (x:=(x.1,z)) (cs:=[.string ⟨x.1.toArray⟩,.int .i64 z]) (te:=31) hFa (.tmp 19) (.tmp 25) 24 rfl Tryd.underlying24 _ 24 info_bdE rfl HW6.out.gc (fun i hi=>hi.elim) rfl HY6.out (by rfl) (by rfl) (by have:=HLN6.out;omega) (by have:=HLN6.out;unfold maxLen;omega) HW6.out.rr.box.lt ?_
  intro v' w7 hg7 hgr hm7
  obtain ⟨p9,c9,hv9⟩:=hg7.slc
  obtain ⟨n9,hn9⟩:∃ n,(r6.p.ch++[(x.1,z)]).length=n:=⟨_,rfl⟩
  rw [hn9] at hv9
  subst hv9
  clear hn9
  have hS7:(fun W:World=>W.cell? ⟨q,0,none⟩=some (.string ⟨x.1.toArray⟩)) w7:=(HX6.out.keep (hgr.block q HX6.out.lt (fun e=>own_ne HW6.out.gc HX6.out (by decide) e.symm))).at 0 rfl
  have HG7:=hid hg7;have HGR:=hid hgr;have HM7:=hid hm7
  clear hg7 hgr hm7 hS6
  refine hK _ _ (.inr (.inr hS7)) ?_
  clear hK K
  (refine wpHJ_nx (v:=?_) 9 rfl rfl (by kernel_rfl) nE hS7 ?_ ?_;rotate_left;(focus refine Or.inl ⟨by rfl,?_⟩;rintro w' s0;go_simp;try rfl);simp only [Act.put,actP,actQ])
  refine wpHJ_done (by kernel_rfl) ?_ _
  simp only [onlyN,Exit.then]
  clear hFa
  clear hS7
  go_wp2_with fail
  go_ret
  refine ⟨_,rfl,w6,by rw [HK.out];exact HW6.out,HB5.out.trans (But.of_below _ HB6.out),HGR.out,HM7.out,?_⟩
  rw [HK.out]
  show GR kBind NoR (b+1) 31 w7 _ (r.p.ch++[(x.1,z)])
  rw [← HPF.out]
  exact HG7.out
set_option maxRecDepth 100000 in
set_option maxHeartbeats 4000000 in
theorem bind_st {b:Nat} {vl vo vc vs:Value} {pw:Option Addr} {cw:Nat} {ws:List Wd} {r:RS} {w:World} (h:RwL b vl vo vc vs pw cw ws r w) (hl:r.p.lv.length≤2000) (hx:r.p.st.length≤2000):Calls Tryd.prog 126 #[.pointer (some ⟨b,0,none⟩),vs] w fun e w' =>
  ∃ v',e = .returned v'∧∃ w6,RwL b vl vo vc vs pw cw ws (bindR r.p.st ws r).2 w6∧But (fun i=>i=b) w w6∧w6.grownBy w' vs.ownBlock∧Moved w6 vs v'∧GR kBind NoR (b+1) 31 w' v' (bindR r.p.st ws r).1:=by
 obtain ⟨pv,cv,rfl⟩:=h.gs.slc
 obtain ⟨NV,hNV⟩:∃ n,r.p.st.length=n:=⟨_,rfl⟩
 have HLN:=hid hx
 have HNV:=hid hNV
 rw [hNV] at h ⊢
 have HLV:=hid (h.lvs (by omega))
 have HSV:=hid (fun W (hW:But (fun i=>i=b) w W)=>show SlG kBind (·<W.heap.size) W (.slice pv NV cv) r.p.st from
  (((h.gs.keepN fun k hk=>hW.block k (h.gs.lt k hk).2 (by have:=(h.gs.lt k hk).1;omega)):GR kBind NoR (b+1) 31 W (.slice pv NV cv) r.p.st).sl (by omega)).weaken fun k hk=>(hk.resolve_left fun e=>e.elim) |> fun hk=>Nat.lt_of_lt_of_le (h.gs.lt k hk).2 hW.size)
 have HMY:=hid (show Calls Tryd.prog 121 #[.pointer (some ⟨b,0,none⟩),.int .i64 (NV:Int),.int .i64 32] w (RrP b vl vo vc (.slice pv NV cv) pw cw ws (.tuple #[]) (manyR NV 32 ws r) w) from many_po NV 32 h.rr)
 have hp:=many_p NV 32 ws r
 have hk:bindR r.p.st ws r=(r.p.st++[((newR (r.p.st.map (·.1)) ws (manyR NV 32 ws r)).1.1,(levelR ws (newR (r.p.st.map (·.1)) ws (manyR NV 32 ws r)).2).1)],(levelR ws (newR (r.p.st.map (·.1)) ws (manyR NV 32 ws r)).2).2):=by rw [← hNV];rfl
 obtain ⟨r1,hr1⟩:∃ y,manyR NV 32 ws r=y:=⟨_,rfl⟩
 rw [hr1] at HMY hp hk
 have hp2:=name_p ws r1
 rw [show newR (r.p.st.map (·.1)) ws r1=newQ (r.p.st.map (·.1)) (nameR ws r1) from rfl] at hk
 obtain ⟨⟨x,r2⟩,hxr⟩:∃ y,nameR ws r1=y:=⟨_,rfl⟩
 have HXR:=hid hxr
 rw [hxr] at hp2 hk
 have HW:=hid h;have HP:=hid hp;have HP3:=hid (show r2.p=r.p from hp2.trans hp)
 have hmf:∀ (fn:Fn) (first cap:Array Value) (w:World),(Instr.makeFunc fn first cap).run Tryd.prog w = .ok (.func fn first cap) w:=fun _ _ _ _=>rfl
 have HKK:=hid hk
 clear h hl hx hr1 hp hp2 hxr hk hNV
 go_enter Tryd.func126,Tryd.ntmps126
 go_upto_region 3 with (first
  | (go_at_call 121;(with_reducible refine HMY.out.mono ?_);rintro e wa ⟨rfl,hra,hba⟩;have HBa:=hid hba;have HNA:=hid (name_po hra);rw [HXR.out] at HNA;clear hra hba)
  | (go_at_call 122;(with_reducible refine HNA.out.mono ?_);rintro e w1 ⟨rfl,hr1,hb1⟩;have HW1:=hid (HW.out.on hr1 HP3.out (HBa.out.trans hb1));have HB1:=hid (HBa.out.trans hb1);clear hr1 hb1))
 obtain ⟨q,hq⟩:∃ q,w1.heap.size=q:=⟨_,rfl⟩
 obtain ⟨w3,hw3⟩:∃ W,w1.alloc (.cells #[.string ⟨x.1.toArray⟩,.int .i64 (x.2.1:Int),.int .i64 (x.2.2:Int)] 97)=W:=⟨_,rfl⟩
 rw [hw3,hq]
 have HW3:=hid (show RwL b vl vo vc (.slice pv NV cv) pw cw ws r2 w3 from by rw [← hw3];exact HW1.out.below ((Below.refl _ _).alloc (Nat.le_refl _) _))
 have HB3:=hid (show But (fun i=>i=b) w w3 from by rw [← hw3];exact HB1.out.al _)
 have HX3:=hid (show BxL 97 q [.string ⟨x.1.toArray⟩,.int .i64 (x.2.1:Int),.int .i64 (x.2.2:Int)] w3 from by rw [← hw3,← hq];exact BxL.new _ _ _)
 have HBQ:=hid (show b<q from by rw [← hq];exact HW1.out.rr.box.lt)
 clear hw3 hq
 have HON:=hid (fun W (hW:But (fun i=>i=b) w3 W)=>(HX3.out.but hW (Nat.ne_of_gt HBQ.out)).p3)
 obtain ⟨x0,x1,x2⟩:=HX3.out.p3
 have HCF:=hid (has_r r.p.st x.1 (.slice pv NV cv) q w3 (HSV.out w3 HB3.out) x0)
 by_cases hc:(r.p.st.map (·.1)).contains x.1=true
 ·have hk:=HKK.out
  unfold newQ at hk
  dsimp only at hk
  rw [if_pos hc] at hk
  rw [hc] at HCF
  obtain ⟨r5,hr5⟩:∃ r5,failR r2 (wpos x) 8=r5:=⟨_,rfl⟩
  have HP5:=hid (show r5.p=r2.p from by rw [← hr5];exact failR_p _ _ _)
  rw [hr5] at hk
  have HK:=hid hk
  have HFA:=hid (fun W (hr:Rr b vl vo vc (.slice pv NV cv) pw cw ws r2 W)=>show Calls Tryd.prog 51 #[.pointer (some ⟨b,0,none⟩),.agg #[.int .i64 (x.2.1:Int),.int .i64 (x.2.2:Int)],.int .i64 8] W (RrP b vl vo vc (.slice pv NV cv) pw cw ws (.tuple #[]) r5 W) from by rw [← hr5];exact fail_po (wpos x) 8 hr)
  clear hc hk hr5
  go_upto_region 5 with (first
   | (go_at_call 57;(with_reducible refine HCF.out.mono ?_);rintro e w4 ⟨rfl,hb4⟩;have HW4:=hid (HW3.out.below hb4);have HB4:=hid (But.of_below (fun i=>i=b) hb4);obtain ⟨y0,y1,y2⟩:=HON.out _ HB4.out;have HFa:=hid (HFA.out w4 HW4.out.rr);clear hb4)
   | (go_at_call 51;(with_reducible refine HFa.out.mono ?_);rintro e wz ⟨rfl,hrz,hbz⟩;have HWz:=hid (HW4.out.on hrz HP5.out hbz);have HBz3:=hid (HB4.out.trans hbz);have HBz:=hid (HB3.out.trans (HB4.out.trans hbz));clear hrz hbz))
  clear y0 y1 y2
  have hp6:=level_p ws r5
  have HLB:=hid (fun W (hr:Rr b vl vo vc (.slice pv NV cv) pw cw ws r5 W) (hv:∀ W',But (fun i=>i=b) W W'→SlG kStr (fun _=>True) W' vl r5.p.lv)=>level_po hr hv)
  obtain ⟨⟨z,r6⟩,hx6⟩:∃ y,levelR ws r5=y:=⟨_,rfl⟩
  rw [hx6] at hp6 HK HLB
  have HP6:=hid (show r6.p=r5.p from hp6)
  have HLN6:=hid (show r6.p.st.length≤2000 from by rw [show r6.p=r.p from hp6.trans (HP5.out.trans HP3.out)];exact HLN.out)
  have HPF:=hid (show r6.p.st=r.p.st from by rw [show r6.p=r.p from hp6.trans (HP5.out.trans HP3.out)])
  clear hx6 hp6
  have HLb:=hid (HLB.out wz.drew HWz.out.rr.dr (fun W hW=>by rw [show r5.p=r.p from HP5.out.trans HP3.out];exact HLV.out W (HBz.out.dr.trans hW)))
  have HX5:=hid (fun W (hW:But (fun i=>i=b) w3 W)=>HX3.out.but hW (Nat.ne_of_gt HBQ.out))
  have hS:(fun W:World=>W.cell? ⟨q,0,none⟩=some (.string ⟨x.1.toArray⟩)) wz.drew:=(HON.out wz.drew HBz3.out.dr).1
  have hFa:=fT
  refine rgN (fun W:World=>W.cell? ⟨q,0,none⟩=some (.string ⟨x.1.toArray⟩)) 9 (by kernel_rfl) ?_
  simp only [List.size_toArray,List.length_cons,List.length_nil,Nat.reduceAdd]
  iterate 4 (refine wpHJ_nx (v:=?_) 9 rfl rfl (by kernel_rfl) nE hS ?_ ?_;rotate_left;(focus refine Or.inl ⟨by rfl,?_⟩;rintro w' s0;go_simp;try rfl);simp only [Act.put,actP,actQ])
  refine wpHJ_only 4 (by kernel_rfl) rfl (fun K hK=>?_)
  go_simp
  (with_reducible refine (callsIn_wide.2 HLb.out).mono ?_)
  rintro e w5 ⟨rfl,hr5,hb5⟩
  have HW5:=hid ((HWz.out.below (Below.refl _ _).drew).on hr5 HP6.out hb5)
  have HB5:=hid (HBz.out.dr.trans hb5)
  have HBz5:=hid (HBz3.out.dr.trans hb5)
  have hS5:(fun W:World=>W.cell? ⟨q,0,none⟩=some (.string ⟨x.1.toArray⟩)) w5:=(HON.out w5 (HBz3.out.dr.trans hb5)).1
  clear hr5 hb5 hS
  refine hK _ _ (.inr (.inr hS5)) ?_
  clear hK K
  (refine wpHJ_nx (v:=?_) 9 rfl rfl (by kernel_rfl) nE hS5 ?_ ?_;rotate_left;(focus refine Or.inl ⟨by rfl,?_⟩;rintro w' s0;go_simp;try rfl);simp only [Act.put,actP,actQ])
  refine wpHJ_only 6 (by kernel_rfl) rfl (fun K hK=>?_)
  go_simp
  obtain ⟨w6,hw⟩:∃ W,w5.alloc (.cells #[.string ⟨x.1.toArray⟩,.int .i64 z] 31)=W:=⟨_,rfl⟩
  rw [hw]
  have HB6:=hid (show Below w5.heap.size w5 w6 from by rw [← hw];exact (Below.refl _ _).alloc (Nat.le_refl _) _)
  have HY6:=hid (show BxL 31 w5.heap.size [.string ⟨x.1.toArray⟩,.int .i64 z] w6 from by rw [← hw];exact BxL.new _ _ _)
  have HW6:=hid (HW5.out.below HB6.out)
  have HX6:=hid (show BxL 97 q [.string ⟨x.1.toArray⟩,.int .i64 (x.2.1:Int),.int .i64 (x.2.2:Int)] w6 from (HX5.out w5 HBz5.out).bel HB6.out)
  have hS6:(fun W:World=>W.cell? ⟨q,0,none⟩=some (.string ⟨x.1.toArray⟩)) w6:=HX6.out.at 0 rfl
  clear hw hS5
  refine hK _ _ (.inr (.inr hS6)) ?_
  clear hK K
  refine wpHJ_only 7 (by kernel_rfl) rfl (fun K hK=>?_)
  refine wpIn_pushB (R:=NoR) (B:=b+1) (K:=kBind) (v := .slice pv NV cv) (l:=r6.p.st) (x:=(x.1,z)) (cs:=[.string ⟨x.1.toArray⟩,.int .i64 z]) (te:=31) hFa (.tmp 19) (.tmp 25) 24 rfl Tryd.underlying24 _ 24 info_bdE rfl HW6.out.gs (fun i hi=>hi.elim) rfl HY6.out (by rfl) (by rfl) (by have:=HLN6.out;omega) (by have:=HLN6.out;unfold maxLen;omega) HW6.out.rr.box.lt ?_
  intro v' w7 hg7 hgr hm7
  obtain ⟨p9,c9,hv9⟩:=hg7.slc
  obtain ⟨n9,hn9⟩:∃ n,(r6.p.st++[(x.1,z)]).length=n:=⟨_,rfl⟩
  rw [hn9] at hv9
  subst hv9
  clear hn9
  have hS7:(fun W:World=>W.cell? ⟨q,0,none⟩=some (.string ⟨x.1.toArray⟩)) w7:=(HX6.out.keep (hgr.block q HX6.out.lt (fun e=>own_ne HW6.out.gs HX6.out (by decide) e.symm))).at 0 rfl
  have HG7:=hid hg7;have HGR:=hid hgr;have HM7:=hid hm7
  clear hg7 hgr hm7 hS6
  refine hK _ _ (.inr (.inr hS7)) ?_
  clear hK K
  (refine wpHJ_nx (v:=?_) 9 rfl rfl (by kernel_rfl) nE hS7 ?_ ?_;rotate_left;(focus refine Or.inl ⟨by rfl,?_⟩;rintro w' s0;go_simp;try rfl);simp only [Act.put,actP,actQ])
  refine wpHJ_done (by kernel_rfl) ?_ _
  simp only [onlyN,Exit.then]
  clear hFa
  clear hS7
  go_wp2_with fail
  go_ret
  refine ⟨_,rfl,w6,by rw [HK.out];exact HW6.out,HB5.out.trans (But.of_below _ HB6.out),HGR.out,HM7.out,?_⟩
  rw [HK.out]
  show GR kBind NoR (b+1) 31 w7 _ (r.p.st++[(x.1,z)])
  rw [← HPF.out]
  exact HG7.out
 ·have hk:=HKK.out
  unfold newQ at hk
  dsimp only at hk
  rw [if_neg hc] at hk
  rw [Bool.not_eq_true] at hc
  rw [hc] at HCF
  obtain ⟨r5,hr5⟩:∃ r5,r2=r5:=⟨_,rfl⟩
  have HP5:=hid (show r5.p=r2.p from by rw [← hr5])
  rw [hr5] at hk HW3
  have HK:=hid hk
  clear hc hk hr5
  go_upto_region 5 with (go_at_call 57;(with_reducible refine HCF.out.mono ?_);rintro e wz ⟨rfl,hbz⟩;have HWz:=hid (HW3.out.below hbz);have HBz3:=hid (But.of_below (fun i=>i=b) hbz);have HBz:=hid (HB3.out.trans (But.of_below (fun i=>i=b) hbz));clear hbz)
  have hp6:=level_p ws r5
  have HLB:=hid (fun W (hr:Rr b vl vo vc (.slice pv NV cv) pw cw ws r5 W) (hv:∀ W',But (fun i=>i=b) W W'→SlG kStr (fun _=>True) W' vl r5.p.lv)=>level_po hr hv)
  obtain ⟨⟨z,r6⟩,hx6⟩:∃ y,levelR ws r5=y:=⟨_,rfl⟩
  rw [hx6] at hp6 HK HLB
  have HP6:=hid (show r6.p=r5.p from hp6)
  have HLN6:=hid (show r6.p.st.length≤2000 from by rw [show r6.p=r.p from hp6.trans (HP5.out.trans HP3.out)];exact HLN.out)
  have HPF:=hid (show r6.p.st=r.p.st from by rw [show r6.p=r.p from hp6.trans (HP5.out.trans HP3.out)])
  clear hx6 hp6
  have HLb:=hid (HLB.out wz.drew HWz.out.rr.dr (fun W hW=>by rw [show r5.p=r.p from HP5.out.trans HP3.out];exact HLV.out W (HBz.out.dr.trans hW)))
  have HX5:=hid (fun W (hW:But (fun i=>i=b) w3 W)=>HX3.out.but hW (Nat.ne_of_gt HBQ.out))
  have hS:(fun W:World=>W.cell? ⟨q,0,none⟩=some (.string ⟨x.1.toArray⟩)) wz.drew:=(HON.out wz.drew HBz3.out.dr).1
  have hFa:=fT
  refine rgN (fun W:World=>W.cell? ⟨q,0,none⟩=some (.string ⟨x.1.toArray⟩)) 9 (by kernel_rfl) ?_
  simp only [List.size_toArray,List.length_cons,List.length_nil,Nat.reduceAdd]
  iterate 4 (refine wpHJ_nx (v:=?_) 9 rfl rfl (by kernel_rfl) nE hS ?_ ?_;rotate_left;(focus refine Or.inl ⟨by rfl,?_⟩;rintro w' s0;go_simp;try rfl);simp only [Act.put,actP,actQ])
  refine wpHJ_only 4 (by kernel_rfl) rfl (fun K hK=>?_)
  go_simp
  (with_reducible refine (callsIn_wide.2 HLb.out).mono ?_)
  rintro e w5 ⟨rfl,hr5,hb5⟩
  have HW5:=hid ((HWz.out.below (Below.refl _ _).drew).on hr5 HP6.out hb5)
  have HB5:=hid (HBz.out.dr.trans hb5)
  have HBz5:=hid (HBz3.out.dr.trans hb5)
  have hS5:(fun W:World=>W.cell? ⟨q,0,none⟩=some (.string ⟨x.1.toArray⟩)) w5:=(HON.out w5 (HBz3.out.dr.trans hb5)).1
  clear hr5 hb5 hS
  refine hK _ _ (.inr (.inr hS5)) ?_
  clear hK K
  (refine wpHJ_nx (v:=?_) 9 rfl rfl (by kernel_rfl) nE hS5 ?_ ?_;rotate_left;(focus refine Or.inl ⟨by rfl,?_⟩;rintro w' s0;go_simp;try rfl);simp only [Act.put,actP,actQ])
  refine wpHJ_only 6 (by kernel_rfl) rfl (fun K hK=>?_)
  go_simp
  obtain ⟨w6,hw⟩:∃ W,w5.alloc (.cells #[.string ⟨x.1.toArray⟩,.int .i64 z] 31)=W:=⟨_,rfl⟩
  rw [hw]
  have HB6:=hid (show Below w5.heap.size w5 w6 from by rw [← hw];exact (Below.refl _ _).alloc (Nat.le_refl _) _)
  have HY6:=hid (show BxL 31 w5.heap.size [.string ⟨x.1.toArray⟩,.int .i64 z] w6 from by rw [← hw];exact BxL.new _ _ _)
  have HW6:=hid (HW5.out.below HB6.out)
  have HX6:=hid (show BxL 97 q [.string ⟨x.1.toArray⟩,.int .i64 (x.2.1:Int),.int .i64 (x.2.2:Int)] w6 from (HX5.out w5 HBz5.out).bel HB6.out)
  have hS6:(fun W:World=>W.cell? ⟨q,0,none⟩=some (.string ⟨x.1.toArray⟩)) w6:=HX6.out.at 0 rfl
  clear hw hS5
  refine hK _ _ (.inr (.inr hS6)) ?_
  clear hK K
  refine wpHJ_only 7 (by kernel_rfl) rfl (fun K hK=>?_)
  refine wpIn_pushB (R:=NoR) (B:=b+1) (K:=kBind) (v := .slice pv NV cv) (l:=r6.p.st) (x:=(x.1,z)) (cs:=[.string ⟨x.1.toArray⟩,.int .i64 z]) (te:=31) hFa (.tmp 19) (.tmp 25) 24 rfl Tryd.underlying24 _ 24 info_bdE rfl HW6.out.gs (fun i hi=>hi.elim) rfl HY6.out (by rfl) (by rfl) (by have:=HLN6.out;omega) (by have:=HLN6.out;unfold maxLen;omega) HW6.out.rr.box.lt ?_
  intro v' w7 hg7 hgr hm7
  obtain ⟨p9,c9,hv9⟩:=hg7.slc
  obtain ⟨n9,hn9⟩:∃ n,(r6.p.st++[(x.1,z)]).length=n:=⟨_,rfl⟩
  rw [hn9] at hv9
  subst hv9
  clear hn9
  have hS7:(fun W:World=>W.cell? ⟨q,0,none⟩=some (.string ⟨x.1.toArray⟩)) w7:=(HX6.out.keep (hgr.block q HX6.out.lt (fun e=>own_ne HW6.out.gs HX6.out (by decide) e.symm))).at 0 rfl
  have HG7:=hid hg7;have HGR:=hid hgr;have HM7:=hid hm7
  clear hg7 hgr hm7 hS6
  refine hK _ _ (.inr (.inr hS7)) ?_
  clear hK K
  (refine wpHJ_nx (v:=?_) 9 rfl rfl (by kernel_rfl) nE hS7 ?_ ?_;rotate_left;(focus refine Or.inl ⟨by rfl,?_⟩;rintro w' s0;go_simp;try rfl);simp only [Act.put,actP,actQ])
  refine wpHJ_done (by kernel_rfl) ?_ _
  simp only [onlyN,Exit.then]
  clear hFa
  clear hS7
  go_wp2_with fail
  go_ret
  refine ⟨_,rfl,w6,by rw [HK.out];exact HW6.out,HB5.out.trans (But.of_below _ HB6.out),HGR.out,HM7.out,?_⟩
  rw [HK.out]
  show GR kBind NoR (b+1) 31 w7 _ (r.p.st++[(x.1,z)])
  rw [← HPF.out]
  exact HG7.out
set_option maxRecDepth 100000 in
set_option maxHeartbeats 4000000 in
theorem kind_3 {b:Nat} {vl vo vc vs:Value} {pw:Option Addr} {cw:Nat} {ws:List Wd} {r:RS} {w:World} (h:RwL b vl vo vc vs pw cw ws r w) (hl:r.p.lv.length≤2000) (hx:r.p.ch.length≤2000):Calls Tryd.prog 125 #[.pointer (some ⟨b,0,none⟩)] w (fun e w'=>e = .returned (.tuple #[])∧(∃ vl' vo' vc' vs',RwL b vl' vo' vc' vs' pw cw ws (readR 2 ws r) w')∧Below b w w'∧Keeps b w w'):=by
 have HBI:=hid (bind_ch h hl hx)
 have HW:=hid h
 have HK:=hid (show readR 2 ws r=setP (bindR r.p.ch ws r).2 (fun p=>{ p with ch:=(bindR r.p.ch ws r).1 }) from rfl)
 obtain ⟨⟨l5,r5⟩,h5⟩:∃ y,bindR r.p.ch ws r=y:=⟨_,rfl⟩
 rw [h5] at HBI HK
 have c2:=h.rr.box.at 2 rfl
 clear h h5
 go_enter Tryd.func125,Tryd.ntmps125
 go_wp2_with (go_at_call 126;(with_reducible refine HBI.out.mono ?_);rintro e w7 ⟨v',rfl,w6,hw6,hb6,hg7,hm7,hG7⟩;obtain ⟨p9,c9,hv9⟩:=hG7.slc;obtain ⟨n9,hn9⟩:∃ n,l5.length=n:=⟨_,rfl⟩;rw [hn9] at hv9;subst hv9;have hbx:=hw6.rr.box.keep (hg7.block b hw6.rr.box.lt fun e=>(by have:=(hw6.gc.lt b e.symm).1;omega));have d2:=hbx.at 2 rfl;have f2:=hbx.fr 2;have HPUT:=hid (hw6.putCh hg7 hm7 hG7);have HBW:=hid (show Below b w w7 from (hb6.below (Nat.le_of_lt HW.out.rr.box.lt) (fun k e=>Nat.le_of_eq e.symm)).trans ⟨hg7.os,hg7.tape,hg7.output,hg7.size,fun i hi=>hg7.block i (Nat.lt_trans hi hw6.rr.box.lt) fun e=>(by have:=(hw6.gc.lt i e.symm).1;omega)⟩);have HKE:=hid ((Keeps.of_but hb6).trans (Keeps.of_grown hw6.gc hg7 (.inr (.inr rfl))));clear hw6 hb6 hg7 hm7 hG7 hbx hn9)
 go_end0
 refine ⟨rfl,⟨_,_,_,_,by rw [HK.out];exact HPUT.out⟩,HBW.out.setCell (p:=⟨b,2,none⟩) (Nat.le_refl _) _,HKE.out.setB⟩
set_option maxRecDepth 100000 in
set_option maxHeartbeats 4000000 in
theorem kind_4 {b:Nat} {vl vo vc vs:Value} {pw:Option Addr} {cw:Nat} {ws:List Wd} {r:RS} {w:World} (h:RwL b vl vo vc vs pw cw ws r w) (hl:r.p.lv.length≤2000) (hx:r.p.st.length≤2000):Calls Tryd.prog 127 #[.pointer (some ⟨b,0,none⟩)] w (fun e w'=>e = .returned (.tuple #[])∧(∃ vl' vo' vc' vs',RwL b vl' vo' vc' vs' pw cw ws (readR 3 ws r) w')∧Below b w w'∧Keeps b w w'):=by
 have HBI:=hid (bind_st h hl hx)
 have HW:=hid h
 have HK:=hid (show readR 3 ws r=setP (bindR r.p.st ws r).2 (fun p=>{ p with st:=(bindR r.p.st ws r).1 }) from rfl)
 obtain ⟨⟨l5,r5⟩,h5⟩:∃ y,bindR r.p.st ws r=y:=⟨_,rfl⟩
 rw [h5] at HBI HK
 have c3:=h.rr.box.at 3 rfl
 clear h h5
 go_enter Tryd.func127,Tryd.ntmps127
 go_wp2_with (go_at_call 126;(with_reducible refine HBI.out.mono ?_);rintro e w7 ⟨v',rfl,w6,hw6,hb6,hg7,hm7,hG7⟩;obtain ⟨p9,c9,hv9⟩:=hG7.slc;obtain ⟨n9,hn9⟩:∃ n,l5.length=n:=⟨_,rfl⟩;rw [hn9] at hv9;subst hv9;have hbx:=hw6.rr.box.keep (hg7.block b hw6.rr.box.lt fun e=>(by have:=(hw6.gs.lt b e.symm).1;omega));have d3:=hbx.at 3 rfl;have f3:=hbx.fr 3;have HPUT:=hid (hw6.putSt hg7 hm7 hG7);have HBW:=hid (show Below b w w7 from (hb6.below (Nat.le_of_lt HW.out.rr.box.lt) (fun k e=>Nat.le_of_eq e.symm)).trans ⟨hg7.os,hg7.tape,hg7.output,hg7.size,fun i hi=>hg7.block i (Nat.lt_trans hi hw6.rr.box.lt) fun e=>(by have:=(hw6.gs.lt i e.symm).1;omega)⟩);have HKE:=hid ((Keeps.of_but hb6).trans (Keeps.of_grown hw6.gs hg7 (.inr (.inr rfl))));clear hw6 hb6 hg7 hm7 hG7 hbx hn9)
 go_end0
 refine ⟨rfl,⟨_,_,_,_,by rw [HK.out];exact HPUT.out⟩,HBW.out.setCell (p:=⟨b,3,none⟩) (Nat.le_refl _) _,HKE.out.setB⟩
end Go.Proofs.YtbijamcoibonkaaDoor
