/-
 Policies: policy.Parse.
-/
import Derived.Test.YtbijamcoibonkaaDoorCSPoG
import Derived.Test.YtbijamcoibonkaaDoorCB19
import Derived.Test.YtbijamcoibonkaaDoorCSTkW
import Derived.ScopeJumps
import Derived.Conc.MuLone
namespace Go.Proofs.YtbijamcoibonkaaDoor
set_option linter.unusedSimpArgs false
set_option linter.unusedVariables false
open Go.RowKit Go.Shelf
attribute [local go_sem] Oper.semAt_some
theorem BxL.ot {t:TypeId} {b c i:Nat} {cs:List Value} {W:World} (h:BxL t b cs W) {v:Value} (hb:b ≠ c):BxL t b cs (W.setCell ⟨c,i,none⟩ v):=h.keep (heap_ot hb v)
theorem BxL.dr {t:TypeId} {b:Nat} {cs:List Value} {W:World} (h:BxL t b cs W):BxL t b cs W.drew:=h
def ParseL (s:Bs) (w:World) (e:Ending) (w':World):Prop:=Below w.heap.size w w'∧∃ a b c d,e = .returned (.tuple #[.agg (poL a b c d (parseP s).1).toArray,posV (parseP s).2.1,.int .i64 (parseP s).2.2])∧PoV (·<w'.heap.size) w' a b c d (parseP s).1
theorem linesR_err {s:Bs} {L C:Nat} {c:Int} (h:linesR s = .error (L,C,c)):parseQ s = .error (((L:Int),(C:Int)),c)∧c ≠ 0:=by
 unfold linesR at h
 unfold parseQ
 split at h
 ·rename_i hl
  injection h with h;injection h with h1 h;injection h with h2 h3;subst h1 h2 h3
  rw [if_pos hl];exact ⟨rfl,by decide⟩
 ·rename_i hl
  rw [if_neg hl]
  cases ht:tok s with
  | error q=>rw [ht] at h;injection h with h;injection h with h1 h;injection h with h2 h3;subst h1 h2 h3;exact ⟨rfl,by decide⟩
  | ok o=>rw [ht] at h;cases h
theorem linesR_ok {s:Bs} {o:List (List Wd)} (h:linesR s = .ok o):s.length≤65536∧tok s = .ok o:=by
 unfold linesR at h
 split at h
 ·cases h
 ·rename_i hl
  cases ht:tok s with
  | error q=>rw [ht] at h;cases h
  | ok o'=>rw [ht] at h;injection h with h;subst h;exact ⟨by omega,rfl⟩
theorem parseQ_of {s:Bs} {o:List (List Wd)} (h:linesR s = .ok o):parseQ s=(linesQ ls0 o >>= endQ (endOf s)):=by
 obtain ⟨h1,h2⟩:=linesR_ok h
 unfold parseQ
 rw [if_neg (by omega),h2]
theorem linesQ_step {st:LS} {o:List (List Wd)} {j:Nat} (hj:j<o.length):linesQ st (o.drop j)=(lineQ st o[j] >>= fun st=>linesQ st (o.drop (j+1))):=by rw [List.drop_eq_getElem_cons hj];rfl
theorem linesQ_done {st:LS} {o:List (List Wd)} {j:Nat} (hj:o.length≤j):linesQ st (o.drop j) = .ok st:=by rw [List.drop_eq_nil_of_le hj];rfl
theorem WLL.slc {R:Nat→Prop} {w:World} {v:Value} {ls:List (List Wd)} (h:WLL R w v ls):∃ p c,v = .slice p ls.length c:=by
 obtain ⟨vs,⟨p,c,e,_⟩,hl,_⟩:=h
 exact ⟨p,c,by rw [e,hl]⟩
theorem WLL.len {R:Nat→Prop} {w:World} {v:Value} {ls:List (List Wd)} (h:WLL R w v ls):ls.length≤140737488355328:=by
 obtain ⟨vs,h1,h2,_⟩:=h
 rw [← h2];exact h1.len
theorem WLL.at' {R:Nat→Prop} {w:World} {p:Option Addr} {n c:Nat} {ls:List (List Wd)} (h:WLL R w (.slice p n c) ls) {j:Nat} (hj:j<ls.length):∃ lb off q cq,p=some ⟨lb,off,none⟩∧R lb∧w.cell? ⟨lb,off+j,none⟩=some (.slice q ls[j].length cq)∧RowR R w q (wflat ls[j]):=by
 obtain ⟨vs,⟨p',c',e,_,_,_,hr⟩,hl,hE⟩:=h
 cases e
 obtain ⟨b,off,e,hR,hc⟩:=hr.at j (by omega)
 obtain ⟨q,cq,e2,_,_,hrow⟩:=hE j hj (by omega)
 exact ⟨b,off,q,cq,e,hR,by rw [hc j (by omega),e2],hrow⟩
theorem refusedL {s:Bs} {f:Flt} {w w':World} (h:parseQ s = .error f) (hb:Below w.heap.size w w'):ParseL s w (.returned (.tuple #[.agg #[.slice none 0 0,.slice none 0 0,.slice none 0 0,.slice none 0 0,.bool false,.int .i64 0,.int .i64 0,.int .i64 0,.int .i64 0],.agg #[.int .i64 f.1.1,.int .i64 f.1.2],.int .i64 f.2])) w':=by
 unfold ParseL parseP
 rw [h]
 exact ⟨hb,_,_,_,_,rfl,SlG.nil,SlG.nil,SlG.nil,SlG.nil⟩
theorem pq_line {s:Bs} {o:List (List Wd)} {st:LS} {j:Nat} {f:Flt} (h:parseQ s=(linesQ ls0 o >>= endQ (endOf s))) (hl:linesQ ls0 o=linesQ st (o.drop j)) (hj:j<o.length) (he:lineQ st o[j] = .error f):parseQ s = .error f:=by rw [h,hl,linesQ_step hj,he];rfl
theorem pq_next {o:List (List Wd)} {st st1:LS} {j:Nat} (hl:linesQ ls0 o=linesQ st (o.drop j)) (hj:j<o.length) (he:lineQ st o[j] = .ok st1):linesQ ls0 o=linesQ st1 (o.drop (j+1)):=by rw [hl,linesQ_step hj,he];rfl
theorem pq_end {s:Bs} {o:List (List Wd)} {st:LS} {j:Nat} (h:parseQ s=(linesQ ls0 o >>= endQ (endOf s))) (hl:linesQ ls0 o=linesQ st (o.drop j)) (hj:o.length≤j):parseQ s=endQ (endOf s) st:=by rw [h,hl,linesQ_done hj];rfl
theorem lineQ_n1 {st st1:LS} {ws:List Wd} (hq:kindQ st (ws.headD wd0)=none) (h1:st.k≤1) (ho:orderQ st = .ok st1):lineQ st ws = .error (wpos (ws.headD wd0),4):=by
 unfold lineQ
 rw [hq]
 simp [highB,h1,ho,bind,Except.bind]
theorem lineQ_n2 {st:LS} {ws:List Wd} (hq:kindQ st (ws.headD wd0)=none) (h1:¬ st.k≤1):lineQ st ws = .error (wpos (ws.headD wd0),4):=by
 unfold lineQ
 rw [hq]
 simp [highB,h1,bind,Except.bind]
theorem lineQ_oe {st:LS} {ws:List Wd} {f:Flt} (hh:highB (kindQ st (ws.headD wd0))=true) (h1:st.k≤1) (ho:orderQ st = .error f):lineQ st ws = .error f:=by
 unfold lineQ
 dsimp only
 rw [hh,decide_eq_true h1,ho]
 rfl
theorem lineQ_s0 {st:LS} {ws:List Wd} {k:Nat} (hq:kindQ st (ws.headD wd0)=some k) (h:¬ (1<k∧st.k≤1)):lineQ st ws=bodyQ st ws k:=by
 unfold lineQ
 rw [hq]
 have:(decide (1<k) && decide (st.k≤1))=false:=by
  rw [Bool.and_eq_false_iff,decide_eq_false_iff_not,decide_eq_false_iff_not]
  omega
 simp [highB,this,bind,Except.bind]
theorem lineQ_s1 {st st1:LS} {ws:List Wd} {k:Nat} (hq:kindQ st (ws.headD wd0)=some k) (h:1<k) (h1:st.k≤1) (ho:orderQ st = .ok st1):lineQ st ws=bodyQ st1 ws k:=by
 unfold lineQ
 rw [hq]
 simp [highB,h,h1,ho,bind,Except.bind]
theorem bodyQ_bad {st:LS} {ws:List Wd} {k:Nat} {r:RS} (hr:endR ws (readR k ws (rs1 st.p))=r) (he:r.e ≠ 0):bodyQ st ws k = .error (r.pos,r.e):=by
 unfold rs1 at hr
 unfold bodyQ
 rw [hr]
 exact if_pos he
theorem bodyQ_good {st:LS} {ws:List Wd} {k:Nat} {r:RS} (hr:endR ws (readR k ws (rs1 st.p))=r) (he:r.e=0):bodyQ st ws k = .ok { st with p:=r.p,k:=k,last:=if k≤1 then wpos (ws.headD wd0) else st.last }:=by
 unfold rs1 at hr
 unfold bodyQ
 rw [hr]
 exact if_neg (fun h=>h he)
theorem endR_p (ws:List Wd) (r:RS):(endR ws r).p=r.p:=by
 unfold endR
 split
 ·exact failR_p _ _ _
 ·rfl
theorem kind_enters (k:Nat) (hk:k<9) (args:Array Value) (w:World):(callFunc (kindF.getD k 0) args).run Tryd.prog w = .ok (.enter (kindF.getD k 0) args) w:=by
 match k,hk with
 | 0,_ =>
  exact Go.MuLone.run_callFunc_enter (P:=Tryd.prog) Tryd.func120 rfl rfl args w
 | 1,_ =>
  exact Go.MuLone.run_callFunc_enter (P:=Tryd.prog) Tryd.func123 rfl rfl args w
 | 2,_ =>
  exact Go.MuLone.run_callFunc_enter (P:=Tryd.prog) Tryd.func125 rfl rfl args w
 | 3,_ =>
  exact Go.MuLone.run_callFunc_enter (P:=Tryd.prog) Tryd.func127 rfl rfl args w
 | 4,_ =>
  exact Go.MuLone.run_callFunc_enter (P:=Tryd.prog) Tryd.func128 rfl rfl args w
 | 5,_ =>
  exact Go.MuLone.run_callFunc_enter (P:=Tryd.prog) Tryd.func130 rfl rfl args w
 | 6,_ =>
  exact Go.MuLone.run_callFunc_enter (P:=Tryd.prog) Tryd.func132 rfl rfl args w
 | 7,_ =>
  exact Go.MuLone.run_callFunc_enter (P:=Tryd.prog) Tryd.func133 rfl rfl args w
 | 8,_ =>
  exact Go.MuLone.run_callFunc_enter (P:=Tryd.prog) Tryd.func134 rfl rfl args w
theorem endQ_k {st:LS} {e:Int × Int} (h:¬ st.k≤1) (h8:st.k<8):endQ e st = .error (e,4):=by
 unfold endQ
 simp [h,h8,bind,Except.bind]
theorem endQ_o {st st1:LS} {e:Int × Int} (h:st.k≤1) (ho:orderQ st = .ok st1) (hk:st1.k=st.k):endQ e st = .error (e,4):=by
 unfold endQ
 have:st1.k<8:=by omega
 simp [h,ho,this,bind,Except.bind]
theorem endQ_oe {st:LS} {e:Int × Int} {f:Flt} (h:st.k≤1) (ho:orderQ st = .error f):endQ e st = .error f:=by
 unfold endQ
 simp [h,ho,bind,Except.bind]
theorem endQ_ok {st:LS} {e:Int × Int} (h:¬ st.k<8):endQ e st = .ok st.p:=by
 unfold endQ
 have h1:¬ st.k≤1:=by omega
 simp [h,h1,bind,Except.bind]
theorem fail1 (p:Po) (pos:Int × Int) (e:Int):failR (rs1 p) pos e=⟨p,1,pos,e⟩:=if_pos rfl
theorem kindQ_none {st:LS} {w:Wd} (h:stepP w.1 st.k=none):kindQ st w=none:=by unfold kindQ;rw [h];split <;> rfl
theorem kindQ_low {st:LS} {w:Wd} {m:Nat} (h:stepP w.1 st.k=some (m+1)) (he:st.p.lv.isEmpty=true):kindQ st w=none:=by unfold kindQ;rw [h,he];simp
theorem kindQ_zero {st:LS} {w:Wd} (h:stepP w.1 st.k=some 0):kindQ st w=some 0:=by unfold kindQ;rw [h];simp
theorem kindQ_some {st:LS} {w:Wd} {m:Nat} (h:stepP w.1 st.k=some m) (he:st.p.lv.isEmpty=false):kindQ st w=some m:=by unfold kindQ;rw [h,he];simp
theorem orderQ_e {st:LS} (h:st.p.lv.isEmpty=true):orderQ st = .ok st:=by unfold orderQ;rw [h];simp
theorem orderQ_yes {st:LS} (h:(st.ord || st.p.lv.isEmpty)=false) (hl:latE st.p.lv.length st.p.od=0):orderQ st = .ok { st with ord:=true }:=by unfold orderQ;rw [h,hl];simp
theorem orderQ_no {st:LS} (h:(st.ord || st.p.lv.isEmpty)=false) (hl:latE st.p.lv.length st.p.od ≠ 0):orderQ st = .error (st.last,latE st.p.lv.length st.p.od):=by unfold orderQ;rw [h];simp [hl]
theorem OrdB.last {b o1 o2 o3:Nat} {od:Bool} {last:Int × Int} {w:World} (h:OrdB b o1 o2 o3 od last w) (x y:Int):OrdB b o1 o2 o3 od (x,y) ((w.setCell ⟨o3,0,none⟩ (.int .i64 x)).setCell ⟨o3,1,none⟩ (.int .i64 y)) :=
 ⟨(h.c1.keep (heap_ot (Ne.symm h.n3.2.1) _)).keep (heap_ot (Ne.symm h.n3.2.1) _),(h.c2.keep (heap_ot (Ne.symm h.n3.2.2) _)).keep (heap_ot (Ne.symm h.n3.2.2) _),(h.c3.set 0 _).set 1 _,h.n1,h.n2,h.n3⟩
theorem OrdB.keeps {b o1 o2 o3:Nat} {od:Bool} {last:Int × Int} {w w':World} (h:OrdB b o1 o2 o3 od last w) (hk:Keeps b w w'):OrdB b o1 o2 o3 od last w' :=
 ⟨hk _ _ _ (Nat.ne_of_gt h.n1) (by decide) (by decide) (by decide) h.c1,hk _ _ _ (Nat.ne_of_gt h.n2.1) (by decide) (by decide) (by decide) h.c2,hk _ _ _ (Nat.ne_of_gt h.n3.1) (by decide) (by decide) (by decide) h.c3,h.n1,h.n2,h.n3⟩
section
variable {b:Nat} {vl vo vc vs:Value} {pw:Option Addr} {cw:Nat} {ws:List Wd} {r:RS} {w:World} {o1 o2 o3:Nat} {od:Bool} {last:Int × Int}
theorem RwL.w0 {lw ow:Nat} (h:RwL b vl vo vc vs (some ⟨lw,ow,none⟩) cw ws r w) {x:Wd} (hx:ws.headD wd0=x):w.cell? ⟨lw,ow,none⟩=some (.string ⟨x.1.toArray⟩)∧w.cell? ⟨lw,ow+1,none⟩=some (.int .i64 (x.2.1:Int))∧w.cell? ⟨lw,ow+2,none⟩=some (.int .i64 (x.2.2:Int)):=by
 obtain ⟨wb,off,e,_,hc⟩:=h.rr.at
 cases e
 have h0:=hc 0 h.rr.ok.pos
 rw [show ow+0*3=ow from by omega,← hd_at h.rr.ok.pos,hx] at h0
 exact h0
theorem order_e (h:RwL b vl vo vc vs pw cw ws r w) (ho:OrdB b o1 o2 o3 od last w) (hl:r.p.lv.length≤2000) (hd:r.p.od.length≤2000) (hT:Bru w) (he:(od || r.p.lv.isEmpty)=true) :
  Calls Tryd.prog 50 #[.pointer (some ⟨o1,0,none⟩),.pointer (some ⟨o2,0,none⟩),.pointer (some ⟨o3,0,none⟩)] w (fun e w'=>e = .returned (.bool true)∧w'=w):=by
 refine (order_po h ho hl hd hT).mono ?_
 rintro e w' (⟨_,a,c⟩ | ⟨hc,_⟩ | ⟨hc,_⟩)
 ·exact ⟨a,c⟩
 ·rw [he] at hc;cases hc
 ·rw [he] at hc;cases hc
theorem order_y (h:RwL b vl vo vc vs pw cw ws r w) (ho:OrdB b o1 o2 o3 od last w) (hl:r.p.lv.length≤2000) (hd:r.p.od.length≤2000) (hT:Bru w) (he:(od || r.p.lv.isEmpty)=false) (hz:latE r.p.lv.length r.p.od=0) :
  Calls Tryd.prog 50 #[.pointer (some ⟨o1,0,none⟩),.pointer (some ⟨o2,0,none⟩),.pointer (some ⟨o3,0,none⟩)] w (fun e w'=>e = .returned (.bool true)∧RwL b vl vo vc vs pw cw ws r w'∧OrdB b o1 o2 o3 true last w'∧Below b w w'):=by
 refine (order_po h ho hl hd hT).mono ?_
 rintro e w' (⟨hc,_⟩ | ⟨_,_,a1,a2,a3,a4⟩ | ⟨_,hn,_⟩)
 ·rw [he] at hc;cases hc
 ·exact ⟨a1,a2,a3,a4⟩
 ·exact absurd hz hn
theorem order_n (h:RwL b vl vo vc vs pw cw ws r w) (ho:OrdB b o1 o2 o3 od last w) (hl:r.p.lv.length≤2000) (hd:r.p.od.length≤2000) (hT:Bru w) (he:(od || r.p.lv.isEmpty)=false) (hz:latE r.p.lv.length r.p.od ≠ 0) :
  Calls Tryd.prog 50 #[.pointer (some ⟨o1,0,none⟩),.pointer (some ⟨o2,0,none⟩),.pointer (some ⟨o3,0,none⟩)] w (fun e w'=>e = .returned (.bool false)∧RwL b vl vo vc vs pw cw ws (failR r last (latE r.p.lv.length r.p.od)) w'∧OrdB b o1 o2 o3 true last w'∧Below b w w'):=by
 refine (order_po h ho hl hd hT).mono ?_
 rintro e w' (⟨hc,_⟩ | ⟨_,hn,_⟩ | ⟨_,_,a1,a2,a3,a4⟩)
 ·rw [he] at hc;cases hc
 ·exact absurd hn hz
 ·exact ⟨a1,a2,a3,a4⟩
end
theorem goodL {s:Bs} {p:Po} {a b c d:Value} {w w':World} (h:parseQ s = .ok p) (hb:Below w.heap.size w w') (hp:PoV (·<w'.heap.size) w' a b c d p):ParseL s w (.returned (.tuple #[.agg (poL a b c d p).toArray,posV (0,0),.int .i64 0])) w':=by
 unfold ParseL parseP
 rw [h]
 exact ⟨hb,_,_,_,_,rfl,hp⟩
theorem PInv.pov {b:Nat} {wb:World} {vl vo vc vs wv:Value} {ix Z:Nat} {st:LS} {w w':World} (h:PInv b wb vl vo vc vs wv ix st w) (hv:VS st Z) (ho:st.p.od.length≤1024) (hs:w.heap.size≤w'.heap.size) (hb:∀ k,b<k→k<w.heap.size→w'.heap[k]?=w.heap[k]?):PoV (·<w'.heap.size) w' vl vo vc vs st.p:=by
 have h1:=hv.lv.2.2;have h2:=hv.ch.1;have h3:=hv.si.1
 refine ⟨(h.gl.sl (by omega)).keep fun k hk=>?_,(h.go.sl (by omega)).keep fun k hk=>?_,(h.gc.sl (by omega)).keep fun k hk=>?_,(h.gs.sl (by omega)).keep fun k hk=>?_⟩
 ·have q:=h.gl.lt k (hk.resolve_left fun e=>e.elim);exact ⟨by omega,hb k (by omega) q.2⟩
 ·have q:=h.go.lt k (hk.resolve_left fun e=>e.elim);exact ⟨by omega,hb k (by omega) q.2⟩
 ·have q:=h.gc.lt k (hk.resolve_left fun e=>e.elim);exact ⟨by omega,hb k (by omega) q.2⟩
 ·have q:=h.gs.lt k (hk.resolve_left fun e=>e.elim);exact ⟨by omega,hb k (by omega) q.2⟩
def WoB (b:Nat) (wb:World) (wv:Value) (ix:Nat) (st:LS):Prop:=st.p.lv=[]∨∃ (pw:Option Addr) (cw:Nat) (ws:List Wd),wv = .slice pw ws.length cw∧RowR (·<b) wb pw (wflat ws)∧ix≤ws.length∧WOk ws
def JG (s:Bs) (w0:World) (a:Act) (w:World):Prop:=∃ (o2 b:Nat) (f:Flt) (cs:List Value) (U:Nat→Value),a={ tmps:=(U 0 :: U 1 :: .pointer (some ⟨w0.heap.size,0,none⟩) :: .pointer (some ⟨w0.heap.size+1,0,none⟩) :: U 4 :: U 5 :: U 6 :: U 7 :: U 8 :: .pointer (some ⟨o2,0,none⟩) :: U 10 :: U 11 :: U 12 :: U 13 :: U 14 :: U 15 :: U 16 :: U 17 :: U 18 :: U 19 :: U 20 :: U 21 :: U 22 :: U 23 :: U 24 :: U 25 :: U 26 :: U 27 :: U 28 :: U 29 :: U 30 :: U 31 :: U 32 :: U 33 :: U 34 :: U 35 :: U 36 :: U 37 :: U 38 :: U 39 :: U 40 :: U 41 :: U 42 :: U 43 :: U 44 :: U 45 :: U 46 :: U 47 :: U 48 :: U 49 :: U 50 :: U 51 :: U 52 :: U 53 :: U 54 :: U 55 :: U 56 :: U 57 :: U 58 :: U 59 :: U 60 :: U 61 :: U 62 :: U 63 :: U 64 :: U 65 :: U 66 :: U 67 :: U 68 :: U 69 :: U 70 :: U 71 :: U 72 :: U 73 :: U 74 :: U 75 :: U 76 :: U 77 :: U 78 :: U 79 :: U 80 :: U 81 :: U 82 :: U 83 :: U 84 :: U 85 :: U 86 :: U 87 :: U 88 :: U 89 :: U 90 :: U 91 :: U 92 :: U 93 :: U 94 :: U 95 :: U 96 :: U 97 :: U 98 :: U 99 :: U 100 :: U 101 :: U 102 :: U 103 :: U 104 :: U 105 :: U 106 :: U 107 :: U 108 :: U 109 :: U 110 :: U 111 :: U 112 :: U 113 :: U 114 :: U 115 :: U 116 :: U 117 :: U 118 :: U 119 :: U 120 :: U 121 :: U 122 :: U 123 :: U 124 :: U 125 :: U 126 :: U 127 :: U 128 :: U 129 :: U 130 :: U 131 :: U 132 :: U 133 :: U 134 :: U 135 :: U 136 :: U 137 :: U 138 :: U 139 :: U 140 :: U 141 :: U 142 :: U 143 :: U 144 :: []).toArray,defers:=[] } ∧
 BxL 90 o2 [.pointer (some ⟨b,0,none⟩)] w∧BxL 93 b cs w∧cs[11]?=some (.int .i64 f.1.1)∧cs[12]?=some (.int .i64 f.1.2)∧cs[13]?=some (.int .i64 f.2)∧parseQ s = .error f ∧
 BxL 26 w0.heap.size [.slice none 0 0,.slice none 0 0,.slice none 0 0,.slice none 0 0,.bool false,.int .i64 0,.int .i64 0,.int .i64 0,.int .i64 0] w∧BxL 42 (w0.heap.size+1) [.int .i64 0,.int .i64 0] w∧Below w0.heap.size w0 w∧w0.heap.size+1<o2∧w0.heap.size+1<b
theorem JG.mk {s:Bs} {w0 w:World} {l:List Value} (o2 b:Nat) (f:Flt) (cs:List Value) (he:l.toArray=(fun U:Nat→Value=>(U 0 :: U 1 :: .pointer (some ⟨w0.heap.size,0,none⟩) :: .pointer (some ⟨w0.heap.size+1,0,none⟩) :: U 4 :: U 5 :: U 6 :: U 7 :: U 8 :: .pointer (some ⟨o2,0,none⟩) :: U 10 :: U 11 :: U 12 :: U 13 :: U 14 :: U 15 :: U 16 :: U 17 :: U 18 :: U 19 :: U 20 :: U 21 :: U 22 :: U 23 :: U 24 :: U 25 :: U 26 :: U 27 :: U 28 :: U 29 :: U 30 :: U 31 :: U 32 :: U 33 :: U 34 :: U 35 :: U 36 :: U 37 :: U 38 :: U 39 :: U 40 :: U 41 :: U 42 :: U 43 :: U 44 :: U 45 :: U 46 :: U 47 :: U 48 :: U 49 :: U 50 :: U 51 :: U 52 :: U 53 :: U 54 :: U 55 :: U 56 :: U 57 :: U 58 :: U 59 :: U 60 :: U 61 :: U 62 :: U 63 :: U 64 :: U 65 :: U 66 :: U 67 :: U 68 :: U 69 :: U 70 :: U 71 :: U 72 :: U 73 :: U 74 :: U 75 :: U 76 :: U 77 :: U 78 :: U 79 :: U 80 :: U 81 :: U 82 :: U 83 :: U 84 :: U 85 :: U 86 :: U 87 :: U 88 :: U 89 :: U 90 :: U 91 :: U 92 :: U 93 :: U 94 :: U 95 :: U 96 :: U 97 :: U 98 :: U 99 :: U 100 :: U 101 :: U 102 :: U 103 :: U 104 :: U 105 :: U 106 :: U 107 :: U 108 :: U 109 :: U 110 :: U 111 :: U 112 :: U 113 :: U 114 :: U 115 :: U 116 :: U 117 :: U 118 :: U 119 :: U 120 :: U 121 :: U 122 :: U 123 :: U 124 :: U 125 :: U 126 :: U 127 :: U 128 :: U 129 :: U 130 :: U 131 :: U 132 :: U 133 :: U 134 :: U 135 :: U 136 :: U 137 :: U 138 :: U 139 :: U 140 :: U 141 :: U 142 :: U 143 :: U 144 :: []).toArray) (fun i=>l.getD i (.slice none 0 0)))
  (h2:BxL 90 o2 [.pointer (some ⟨b,0,none⟩)] w) (hb:BxL 93 b cs w) (e1:cs[11]?=some (.int .i64 f.1.1)) (e2:cs[12]?=some (.int .i64 f.1.2)) (e3:cs[13]?=some (.int .i64 f.2)) (hp:parseQ s = .error f)
  (h0:BxL 26 w0.heap.size [.slice none 0 0,.slice none 0 0,.slice none 0 0,.slice none 0 0,.bool false,.int .i64 0,.int .i64 0,.int .i64 0,.int .i64 0] w) (h1:BxL 42 (w0.heap.size+1) [.int .i64 0,.int .i64 0] w) (hbe:Below w0.heap.size w0 w) (n2:w0.heap.size+1<o2) (nb:w0.heap.size+1<b):JG s w0 { tmps:=l.toArray,defers:=[] } w :=
 ⟨o2,b,f,cs,fun i=>l.getD i (.slice none 0 0),congrArg (fun t=>({ tmps:=t,defers:=[] }:Act)) he,h2,hb,e1,e2,e3,hp,h0,h1,hbe,n2,nb⟩
set_option maxRecDepth 100000 in
set_option maxHeartbeats 4000000 in
theorem parse_po (s:Bs) (m:Int) (w:World) (hm:w.cell? ⟨2,0,none⟩=some (.int .i64 m)) (hK:KindT w) (hB:Bru w):Calls Tryd.prog 17 #[.string ⟨s.toArray⟩] w (ParseL s w):=by
 have hmf:∀ (fn:Fn) (first cap:Array Value) (w:World),(Instr.makeFunc fn first cap).run Tryd.prog w = .ok (.func fn first cap) w:=fun _ _ _ _=>rfl
 have HM:=hid hm;have HK:=hid hK;have HBR:=hid hB
 clear hm hK hB
 go_enter Tryd.func17,Tryd.ntmps17
 go_wp2_with fail
 obtain ⟨w3,hw3⟩:∃ W,(w.alloc (.cells #[.slice none 0 0,.slice none 0 0,.slice none 0 0,.slice none 0 0,.bool false,.int .i64 0,.int .i64 0,.int .i64 0,.int .i64 0] 26)).alloc (.cells #[.int .i64 0,.int .i64 0] 42)=W:=⟨_,rfl⟩
 have hs3:w3.heap.size=w.heap.size+1+1:=by rw [← hw3];simp only [World.size_alloc]
 have hb3:Below w.heap.size w w3:=by rw [← hw3];exact ((Below.refl _ _).alloc (Nat.le_refl _) _).alloc (by simp only [World.size_alloc];omega) _
 have h13:BxL 26 w.heap.size [.slice none 0 0,.slice none 0 0,.slice none 0 0,.slice none 0 0,.bool false,.int .i64 0,.int .i64 0,.int .i64 0,.int .i64 0] w3:=by
  rw [← hw3]
  exact (BxL.new 26 w [.slice none 0 0,.slice none 0 0,.slice none 0 0,.slice none 0 0,.bool false,.int .i64 0,.int .i64 0,.int .i64 0,.int .i64 0]).al _
 have h23:BxL 42 (w.heap.size+1) [.int .i64 0,.int .i64 0] w3:=by
  rw [← hw3]
  have:=BxL.new 42 (w.alloc (.cells #[.slice none 0 0,.slice none 0 0,.slice none 0 0,.slice none 0 0,.bool false,.int .i64 0,.int .i64 0,.int .i64 0,.int .i64 0] 26)) [.int .i64 0,.int .i64 0]
  rw [World.size_alloc] at this
  exact this
 rw [hw3]
 clear hw3
 have HS3:=hid hs3;have HB3:=hid hb3;have H13:=hid h13;have H23:=hid h23
 have hm3:w3.cell? ⟨2,0,none⟩=some (.int .i64 m):=(hb3.cell (p:=⟨_,_,none⟩) (cell_size HM.out)).trans HM.out
 have HLN:=hid (lines_any s m w3 hm3)
 clear hs3 hb3 h13 h23 hm3
 refine wp_scope_jumps 0 (JG s w) (fun _ _=>0) rfl ?_ ?_
 rotate_left
 ·rintro a w2 ⟨o2,b,f,cs,U,rfl,h2,hb,e11,e12,e13,hp,h0,h1,hbel,n2,nb⟩
  have HP:=hid hp;have HBE:=hid hbel;have H1:=hid h1;have H0:=hid h0
  have hS:(fun W:World=>W.cell? ⟨o2,0,none⟩=some (.pointer (some ⟨b,0,none⟩))∧W.cell? ⟨b,11,none⟩=some (.int .i64 f.1.1)∧W.cell? ⟨b,12,none⟩=some (.int .i64 f.1.2)∧W.cell? ⟨b,13,none⟩=some (.int .i64 f.2)) w2.drew:=⟨h2.dr.at 0 rfl,hb.dr.at 11 e11,hb.dr.at 12 e12,hb.dr.at 13 e13⟩
  have p2:BxL 90 o2 [.pointer (some ⟨b,0,none⟩)] (((((((((w2.setCell ⟨w.heap.size,0,none⟩ (.slice none 0 0)).setCell ⟨w.heap.size,1,none⟩ (.slice none 0 0)).setCell ⟨w.heap.size,2,none⟩ (.slice none 0 0)).setCell ⟨w.heap.size,3,none⟩ (.slice none 0 0)).setCell ⟨w.heap.size,4,none⟩ (.bool false)).setCell ⟨w.heap.size,5,none⟩ (.int .i64 0)).setCell ⟨w.heap.size,6,none⟩ (.int .i64 0)).setCell ⟨w.heap.size,7,none⟩ (.int .i64 0)).setCell ⟨w.heap.size,8,none⟩ (.int .i64 0)):=(((((((((h2.ot (by omega)).ot (by omega)).ot (by omega)).ot (by omega)).ot (by omega)).ot (by omega)).ot (by omega)).ot (by omega)).ot (by omega))
  have pb:BxL 93 b cs (((((((((w2.setCell ⟨w.heap.size,0,none⟩ (.slice none 0 0)).setCell ⟨w.heap.size,1,none⟩ (.slice none 0 0)).setCell ⟨w.heap.size,2,none⟩ (.slice none 0 0)).setCell ⟨w.heap.size,3,none⟩ (.slice none 0 0)).setCell ⟨w.heap.size,4,none⟩ (.bool false)).setCell ⟨w.heap.size,5,none⟩ (.int .i64 0)).setCell ⟨w.heap.size,6,none⟩ (.int .i64 0)).setCell ⟨w.heap.size,7,none⟩ (.int .i64 0)).setCell ⟨w.heap.size,8,none⟩ (.int .i64 0)):=(((((((((hb.ot (by omega)).ot (by omega)).ot (by omega)).ot (by omega)).ot (by omega)).ot (by omega)).ot (by omega)).ot (by omega)).ot (by omega))
  have q0:BxL 26 w.heap.size [.slice none 0 0,.slice none 0 0,.slice none 0 0,.slice none 0 0,.bool false,.int .i64 0,.int .i64 0,.int .i64 0,.int .i64 0] (((((((((w2.setCell ⟨w.heap.size,0,none⟩ (.slice none 0 0)).setCell ⟨w.heap.size,1,none⟩ (.slice none 0 0)).setCell ⟨w.heap.size,2,none⟩ (.slice none 0 0)).setCell ⟨w.heap.size,3,none⟩ (.slice none 0 0)).setCell ⟨w.heap.size,4,none⟩ (.bool false)).setCell ⟨w.heap.size,5,none⟩ (.int .i64 0)).setCell ⟨w.heap.size,6,none⟩ (.int .i64 0)).setCell ⟨w.heap.size,7,none⟩ (.int .i64 0)).setCell ⟨w.heap.size,8,none⟩ (.int .i64 0)):=(((((((((h0.set 0 _).set 1 _).set 2 _).set 3 _).set 4 _).set 5 _).set 6 _).set 7 _).set 8 _)
  have q1:BxL 42 (w.heap.size+1) [.int .i64 0,.int .i64 0] (((((((((w2.setCell ⟨w.heap.size,0,none⟩ (.slice none 0 0)).setCell ⟨w.heap.size,1,none⟩ (.slice none 0 0)).setCell ⟨w.heap.size,2,none⟩ (.slice none 0 0)).setCell ⟨w.heap.size,3,none⟩ (.slice none 0 0)).setCell ⟨w.heap.size,4,none⟩ (.bool false)).setCell ⟨w.heap.size,5,none⟩ (.int .i64 0)).setCell ⟨w.heap.size,6,none⟩ (.int .i64 0)).setCell ⟨w.heap.size,7,none⟩ (.int .i64 0)).setCell ⟨w.heap.size,8,none⟩ (.int .i64 0)):=(((((((((h1.ot (by omega)).ot (by omega)).ot (by omega)).ot (by omega)).ot (by omega)).ot (by omega)).ot (by omega)).ot (by omega)).ot (by omega))
  have hS1:(fun W:World=>W.cell? ⟨o2,0,none⟩=some (.pointer (some ⟨b,0,none⟩))∧W.cell? ⟨b,11,none⟩=some (.int .i64 f.1.1)∧W.cell? ⟨b,12,none⟩=some (.int .i64 f.1.2)∧W.cell? ⟨b,13,none⟩=some (.int .i64 f.2)) ((((((((((w2.setCell ⟨w.heap.size,0,none⟩ (.slice none 0 0)).setCell ⟨w.heap.size,1,none⟩ (.slice none 0 0)).setCell ⟨w.heap.size,2,none⟩ (.slice none 0 0)).setCell ⟨w.heap.size,3,none⟩ (.slice none 0 0)).setCell ⟨w.heap.size,4,none⟩ (.bool false)).setCell ⟨w.heap.size,5,none⟩ (.int .i64 0)).setCell ⟨w.heap.size,6,none⟩ (.int .i64 0)).setCell ⟨w.heap.size,7,none⟩ (.int .i64 0)).setCell ⟨w.heap.size,8,none⟩ (.int .i64 0))).drew:=⟨p2.dr.at 0 rfl,pb.dr.at 11 e11,pb.dr.at 12 e12,pb.dr.at 13 e13⟩
  have hS2:(fun W:World=>W.cell? ⟨o2,0,none⟩=some (.pointer (some ⟨b,0,none⟩))∧W.cell? ⟨b,11,none⟩=some (.int .i64 f.1.1)∧W.cell? ⟨b,12,none⟩=some (.int .i64 f.1.2)∧W.cell? ⟨b,13,none⟩=some (.int .i64 f.2)) ((((((((((((w2.setCell ⟨w.heap.size,0,none⟩ (.slice none 0 0)).setCell ⟨w.heap.size,1,none⟩ (.slice none 0 0)).setCell ⟨w.heap.size,2,none⟩ (.slice none 0 0)).setCell ⟨w.heap.size,3,none⟩ (.slice none 0 0)).setCell ⟨w.heap.size,4,none⟩ (.bool false)).setCell ⟨w.heap.size,5,none⟩ (.int .i64 0)).setCell ⟨w.heap.size,6,none⟩ (.int .i64 0)).setCell ⟨w.heap.size,7,none⟩ (.int .i64 0)).setCell ⟨w.heap.size,8,none⟩ (.int .i64 0)).setCell ⟨w.heap.size+1,0,none⟩ (.int .i64 f.1.1)).setCell ⟨w.heap.size+1,1,none⟩ (.int .i64 f.1.2))).drew:=⟨((p2.ot (by omega)).ot (by omega)).dr.at 0 rfl,((pb.ot (by omega)).ot (by omega)).dr.at 11 e11,((pb.ot (by omega)).ot (by omega)).dr.at 12 e12,((pb.ot (by omega)).ot (by omega)).dr.at 13 e13⟩
  have a0:=h0.at 0 rfl;have fr0:=h0.fr 0;have a1:=h0.at 1 rfl;have fr1:=h0.fr 1;have a2:=h0.at 2 rfl;have fr2:=h0.fr 2;have a3:=h0.at 3 rfl;have fr3:=h0.fr 3;have a4:=h0.at 4 rfl;have fr4:=h0.fr 4;have a5:=h0.at 5 rfl;have fr5:=h0.fr 5;have a6:=h0.at 6 rfl;have fr6:=h0.fr 6;have a7:=h0.at 7 rfl;have fr7:=h0.fr 7;have a8:=h0.at 8 rfl;have fr8:=h0.fr 8
  have c0:=q1.at 0 rfl;have c1:=q1.at 1 rfl;have d0:=q1.fr 0;have d1:=q1.fr 1
  have Q0:=hid q0;have Q1:=hid q1
  clear hp hbel h2 hb h0 h1 p2 pb q0 q1
  go_upto_region 30 with fail
  have hFa:=fT
  refine rgN (fun W:World=>W.cell? ⟨o2,0,none⟩=some (.pointer (some ⟨b,0,none⟩))∧W.cell? ⟨b,11,none⟩=some (.int .i64 f.1.1)∧W.cell? ⟨b,12,none⟩=some (.int .i64 f.1.2)∧W.cell? ⟨b,13,none⟩=some (.int .i64 f.2)) 12 (by kernel_rfl) ?_
  simp only [List.size_toArray,List.length_cons,List.length_nil,Nat.reduceAdd]
  iterate 9 (refine wpHJ_nx (v:=?_) 12 rfl rfl (by kernel_rfl) nE hS ?_ ?_;rotate_left;(focus refine Or.inl ⟨by rfl,?_⟩;rintro w' ⟨s0,s1,s2,s3⟩;go_simp;try rfl);simp only [Act.put,actP,actQ])
  refine wpHJ_only 9 (by kernel_rfl) rfl (fun K hK=>?_)
  go_simp
  refine hK _ _ (.inr (.inr hS1)) ?_
  clear hK K
  refine wpHJ_only 10 (by kernel_rfl) rfl (fun K hK=>?_)
  go_simp
  refine hK _ _ (.inr (.inr hS2)) ?_
  clear hK K
  (refine wpHJ_nx (v:=?_) 12 rfl rfl (by kernel_rfl) nE hS2 ?_ ?_;rotate_left;(focus refine Or.inl ⟨by rfl,?_⟩;rintro w' ⟨s0,s1,s2,s3⟩;go_simp;try rfl);simp only [Act.put,actP,actQ])
  refine wpHJ_done (by kernel_rfl) ?_ _
  simp only [onlyN,Exit.then]
  clear hFa
  clear hS hS1 hS2 e11 e12 e13
  have z1:BxL 26 w.heap.size [.slice none 0 0,.slice none 0 0,.slice none 0 0,.slice none 0 0,.bool false,.int .i64 0,.int .i64 0,.int .i64 0,.int .i64 0] ((((((((((((w2.setCell ⟨w.heap.size,0,none⟩ (.slice none 0 0)).setCell ⟨w.heap.size,1,none⟩ (.slice none 0 0)).setCell ⟨w.heap.size,2,none⟩ (.slice none 0 0)).setCell ⟨w.heap.size,3,none⟩ (.slice none 0 0)).setCell ⟨w.heap.size,4,none⟩ (.bool false)).setCell ⟨w.heap.size,5,none⟩ (.int .i64 0)).setCell ⟨w.heap.size,6,none⟩ (.int .i64 0)).setCell ⟨w.heap.size,7,none⟩ (.int .i64 0)).setCell ⟨w.heap.size,8,none⟩ (.int .i64 0)).setCell ⟨w.heap.size+1,0,none⟩ (.int .i64 f.1.1)).setCell ⟨w.heap.size+1,1,none⟩ (.int .i64 f.1.2))).drew:=(((Q0.out.ot (by omega)).ot (by omega))).dr
  have z2:BxL 42 (w.heap.size+1) [.int .i64 f.1.1,.int .i64 f.1.2] ((((((((((((w2.setCell ⟨w.heap.size,0,none⟩ (.slice none 0 0)).setCell ⟨w.heap.size,1,none⟩ (.slice none 0 0)).setCell ⟨w.heap.size,2,none⟩ (.slice none 0 0)).setCell ⟨w.heap.size,3,none⟩ (.slice none 0 0)).setCell ⟨w.heap.size,4,none⟩ (.bool false)).setCell ⟨w.heap.size,5,none⟩ (.int .i64 0)).setCell ⟨w.heap.size,6,none⟩ (.int .i64 0)).setCell ⟨w.heap.size,7,none⟩ (.int .i64 0)).setCell ⟨w.heap.size,8,none⟩ (.int .i64 0)).setCell ⟨w.heap.size+1,0,none⟩ (.int .i64 f.1.1)).setCell ⟨w.heap.size+1,1,none⟩ (.int .i64 f.1.2))).drew:=((Q1.out.set 0 _).set 1 _).dr
  have hbz:Below w.heap.size w ((((((((((((w2.setCell ⟨w.heap.size,0,none⟩ (.slice none 0 0)).setCell ⟨w.heap.size,1,none⟩ (.slice none 0 0)).setCell ⟨w.heap.size,2,none⟩ (.slice none 0 0)).setCell ⟨w.heap.size,3,none⟩ (.slice none 0 0)).setCell ⟨w.heap.size,4,none⟩ (.bool false)).setCell ⟨w.heap.size,5,none⟩ (.int .i64 0)).setCell ⟨w.heap.size,6,none⟩ (.int .i64 0)).setCell ⟨w.heap.size,7,none⟩ (.int .i64 0)).setCell ⟨w.heap.size,8,none⟩ (.int .i64 0)).setCell ⟨w.heap.size+1,0,none⟩ (.int .i64 f.1.1)).setCell ⟨w.heap.size+1,1,none⟩ (.int .i64 f.1.2))).drew:=by
   refine Below.drew ?_
   iterate 11 refine Below.setCell ?_ (by dsimp only;omega) _
   exact HBE.out
  generalize ((((((((((((w2.setCell ⟨w.heap.size,0,none⟩ (.slice none 0 0)).setCell ⟨w.heap.size,1,none⟩ (.slice none 0 0)).setCell ⟨w.heap.size,2,none⟩ (.slice none 0 0)).setCell ⟨w.heap.size,3,none⟩ (.slice none 0 0)).setCell ⟨w.heap.size,4,none⟩ (.bool false)).setCell ⟨w.heap.size,5,none⟩ (.int .i64 0)).setCell ⟨w.heap.size,6,none⟩ (.int .i64 0)).setCell ⟨w.heap.size,7,none⟩ (.int .i64 0)).setCell ⟨w.heap.size,8,none⟩ (.int .i64 0)).setCell ⟨w.heap.size+1,0,none⟩ (.int .i64 f.1.1)).setCell ⟨w.heap.size+1,1,none⟩ (.int .i64 f.1.2))).drew=wz at z1 z2 hbz ⊢
  have g0:=z1.at 0 rfl;have g1:=z1.at 1 rfl;have g2:=z1.at 2 rfl;have g3:=z1.at 3 rfl;have g4:=z1.at 4 rfl;have g5:=z1.at 5 rfl;have g6:=z1.at 6 rfl;have g7:=z1.at 7 rfl;have g8:=z1.at 8 rfl;have k0:=z2.at 0 rfl;have k1:=z2.at 1 rfl
  clear z1 z2
  go_wp2_with fail
  try simp only [Exit.jump]
  refine bodyPost_ret (v := .tuple #[.agg #[.slice none 0 0,.slice none 0 0,.slice none 0 0,.slice none 0 0,.bool false,.int .i64 0,.int .i64 0,.int .i64 0,.int .i64 0],posV f.1,.int .i64 f.2]) (by simp [results,Tryd.results17,go_sem,g0,g1,g2,g3,g4,g5,g6,g7,g8,k0,k1]) rfl ?_
  exact refusedL HP.out hbz
 cases hlr:linesR s with
 | error q =>
  obtain ⟨L,C,c⟩:=q
  obtain ⟨he,hc⟩:=linesR_err hlr
  have HPE:=hid he
  have gc:(c == 0)=false:=by rw [beq_eq_false_iff_ne];exact hc
  have gc':(c != 0)=true:=by rw [bne_iff_ne];exact hc
  have HP:=hid (show LinesPost s w3=_ from by unfold LinesPost;rw [hlr])
  clear hlr he hc
  go_upto_region 3 with (go_at_call 47;refine HLN.out.mono ?_;rw [HP.out];rintro e w4 ⟨hb,rfl⟩;have HB4:=hid hb;clear hb)
  obtain ⟨b6,hb6⟩:∃ b,w4.heap.size=b:=⟨_,rfl⟩
  obtain ⟨w5,hw5⟩:∃ W,w4.alloc (.cells #[.int .i64 (L:Int),.int .i64 (C:Int)] 42)=W:=⟨_,rfl⟩
  have h65:BxL 42 b6 [.int .i64 (L:Int),.int .i64 (C:Int)] w5:=by rw [← hw5,← hb6];exact BxL.new _ _ _
  have hb5:Below w3.heap.size w3 w5:=by rw [← hw5];exact HB4.out.alloc HB4.out.size _
  have hs6:w3.heap.size≤b6:=by rw [← hb6];exact HB4.out.size
  rw [hw5,hb6]
  clear hw5 hb6
  have H65:=hid h65;have HB5:=hid hb5;have HS6:=hid (show w.heap.size+1+1≤b6 from by rw [← HS3.out];exact hs6)
  clear hs6
  have n1:w.heap.size ≠ b6:=by have:=HS6.out;omega
  have n2:w.heap.size+1 ≠ b6:=by have:=HS6.out;omega
  have h0:=H13.out.bel hb5;have h1:=H23.out.bel hb5
  have HBW:=hid (show Below w.heap.size w w5 from HB3.out.trans (hb5.mono (by have:=HS3.out;omega)))
  have hS:(fun W:World=>W.cell? ⟨b6,0,none⟩=some (.int .i64 (L:Int))∧W.cell? ⟨b6,1,none⟩=some (.int .i64 (C:Int))) w5.drew:=⟨h65.dr.at 0 rfl,h65.dr.at 1 rfl⟩
  have p6:BxL 42 b6 [.int .i64 (L:Int),.int .i64 (C:Int)] (((((((((w5.setCell ⟨w.heap.size,0,none⟩ (.slice none 0 0)).setCell ⟨w.heap.size,1,none⟩ (.slice none 0 0)).setCell ⟨w.heap.size,2,none⟩ (.slice none 0 0)).setCell ⟨w.heap.size,3,none⟩ (.slice none 0 0)).setCell ⟨w.heap.size,4,none⟩ (.bool false)).setCell ⟨w.heap.size,5,none⟩ (.int .i64 0)).setCell ⟨w.heap.size,6,none⟩ (.int .i64 0)).setCell ⟨w.heap.size,7,none⟩ (.int .i64 0)).setCell ⟨w.heap.size,8,none⟩ (.int .i64 0)):=(((((((((h65.ot (Ne.symm n1)).ot (Ne.symm n1)).ot (Ne.symm n1)).ot (Ne.symm n1)).ot (Ne.symm n1)).ot (Ne.symm n1)).ot (Ne.symm n1)).ot (Ne.symm n1)).ot (Ne.symm n1))
  have q0:BxL 26 w.heap.size [.slice none 0 0,.slice none 0 0,.slice none 0 0,.slice none 0 0,.bool false,.int .i64 0,.int .i64 0,.int .i64 0,.int .i64 0] (((((((((w5.setCell ⟨w.heap.size,0,none⟩ (.slice none 0 0)).setCell ⟨w.heap.size,1,none⟩ (.slice none 0 0)).setCell ⟨w.heap.size,2,none⟩ (.slice none 0 0)).setCell ⟨w.heap.size,3,none⟩ (.slice none 0 0)).setCell ⟨w.heap.size,4,none⟩ (.bool false)).setCell ⟨w.heap.size,5,none⟩ (.int .i64 0)).setCell ⟨w.heap.size,6,none⟩ (.int .i64 0)).setCell ⟨w.heap.size,7,none⟩ (.int .i64 0)).setCell ⟨w.heap.size,8,none⟩ (.int .i64 0)):=(((((((((h0.set 0 _).set 1 _).set 2 _).set 3 _).set 4 _).set 5 _).set 6 _).set 7 _).set 8 _)
  have q1:BxL 42 (w.heap.size+1) [.int .i64 0,.int .i64 0] (((((((((w5.setCell ⟨w.heap.size,0,none⟩ (.slice none 0 0)).setCell ⟨w.heap.size,1,none⟩ (.slice none 0 0)).setCell ⟨w.heap.size,2,none⟩ (.slice none 0 0)).setCell ⟨w.heap.size,3,none⟩ (.slice none 0 0)).setCell ⟨w.heap.size,4,none⟩ (.bool false)).setCell ⟨w.heap.size,5,none⟩ (.int .i64 0)).setCell ⟨w.heap.size,6,none⟩ (.int .i64 0)).setCell ⟨w.heap.size,7,none⟩ (.int .i64 0)).setCell ⟨w.heap.size,8,none⟩ (.int .i64 0)):=(((((((((h1.ot (by omega)).ot (by omega)).ot (by omega)).ot (by omega)).ot (by omega)).ot (by omega)).ot (by omega)).ot (by omega)).ot (by omega))
  have hS1:(fun W:World=>W.cell? ⟨b6,0,none⟩=some (.int .i64 (L:Int))∧W.cell? ⟨b6,1,none⟩=some (.int .i64 (C:Int))) ((((((((((w5.setCell ⟨w.heap.size,0,none⟩ (.slice none 0 0)).setCell ⟨w.heap.size,1,none⟩ (.slice none 0 0)).setCell ⟨w.heap.size,2,none⟩ (.slice none 0 0)).setCell ⟨w.heap.size,3,none⟩ (.slice none 0 0)).setCell ⟨w.heap.size,4,none⟩ (.bool false)).setCell ⟨w.heap.size,5,none⟩ (.int .i64 0)).setCell ⟨w.heap.size,6,none⟩ (.int .i64 0)).setCell ⟨w.heap.size,7,none⟩ (.int .i64 0)).setCell ⟨w.heap.size,8,none⟩ (.int .i64 0))).drew:=⟨p6.dr.at 0 rfl,p6.dr.at 1 rfl⟩
  have a0:=h0.at 0 rfl;have fr0:=h0.fr 0;have a1:=h0.at 1 rfl;have fr1:=h0.fr 1;have a2:=h0.at 2 rfl;have fr2:=h0.fr 2;have a3:=h0.at 3 rfl;have fr3:=h0.fr 3;have a4:=h0.at 4 rfl;have fr4:=h0.fr 4;have a5:=h0.at 5 rfl;have fr5:=h0.fr 5;have a6:=h0.at 6 rfl;have fr6:=h0.fr 6;have a7:=h0.at 7 rfl;have fr7:=h0.fr 7;have a8:=h0.at 8 rfl;have fr8:=h0.fr 8
  have c0:=q1.at 0 rfl;have c1:=q1.at 1 rfl;have d0:=q1.fr 0;have d1:=q1.fr 1
  have Q0:=hid q0;have Q1:=hid q1
  clear h65 hb5 h0 h1 p6 q0 q1 n1 n2
  have hFa:=fT
  refine rgN (fun W:World=>W.cell? ⟨b6,0,none⟩=some (.int .i64 (L:Int))∧W.cell? ⟨b6,1,none⟩=some (.int .i64 (C:Int))) 4 (by kernel_rfl) ?_
  simp only [List.size_toArray,List.length_cons,List.length_nil,Nat.reduceAdd]
  iterate 2 (refine wpHJ_nx (v:=?_) 6 rfl rfl (by kernel_rfl) nE hS ?_ ?_;rotate_left;(focus refine Or.inl ⟨by rfl,?_⟩;rintro w' ⟨s0,s1⟩;go_simp;try rfl);simp only [Act.put,actP,actQ])
  (refine wpHJ_np (v:=?_) 6 rfl rfl (by kernel_rfl) nE (.inr hS) ?_ ?_;rotate_left;(focus refine Or.inl ⟨by rfl,?_⟩;rintro w' _;go_simp;try rfl);simp only [Act.put,actP,actQ])
  refine wpHJ_only 3 (by kernel_rfl) rfl (fun K hK=>?_)
  go_simp
  refine hK _ _ (.inr (.inr hS1)) ?_
  clear hK K
  refine wpHJ_only 4 (by kernel_rfl) rfl (fun K hK=>?_)
  go_simp
  refine hK _ _ (.inl rfl) ?_
  clear hK K
  (refine wpHJ_np (v:=?_) 6 rfl rfl (by kernel_rfl) nE (.inl rfl) ?_ ?_;rotate_left;(focus refine Or.inl ⟨by rfl,?_⟩;rintro w' _;go_simp;try rfl);simp only [Act.put,actP,actQ])
  refine wpHJ_done (by kernel_rfl) ?_ _
  simp only [onlyN,Exit.then]
  clear hFa
  clear hS hS1
  have z1:BxL 26 w.heap.size [.slice none 0 0,.slice none 0 0,.slice none 0 0,.slice none 0 0,.bool false,.int .i64 0,.int .i64 0,.int .i64 0,.int .i64 0] ((((((((((((w5.setCell ⟨w.heap.size,0,none⟩ (.slice none 0 0)).setCell ⟨w.heap.size,1,none⟩ (.slice none 0 0)).setCell ⟨w.heap.size,2,none⟩ (.slice none 0 0)).setCell ⟨w.heap.size,3,none⟩ (.slice none 0 0)).setCell ⟨w.heap.size,4,none⟩ (.bool false)).setCell ⟨w.heap.size,5,none⟩ (.int .i64 0)).setCell ⟨w.heap.size,6,none⟩ (.int .i64 0)).setCell ⟨w.heap.size,7,none⟩ (.int .i64 0)).setCell ⟨w.heap.size,8,none⟩ (.int .i64 0)).setCell ⟨w.heap.size+1,0,none⟩ (.int .i64 (L:Int))).setCell ⟨w.heap.size+1,1,none⟩ (.int .i64 (C:Int)))).drew:=(((Q0.out.ot (by omega)).ot (by omega))).dr
  have z2:BxL 42 (w.heap.size+1) [.int .i64 (L:Int),.int .i64 (C:Int)] ((((((((((((w5.setCell ⟨w.heap.size,0,none⟩ (.slice none 0 0)).setCell ⟨w.heap.size,1,none⟩ (.slice none 0 0)).setCell ⟨w.heap.size,2,none⟩ (.slice none 0 0)).setCell ⟨w.heap.size,3,none⟩ (.slice none 0 0)).setCell ⟨w.heap.size,4,none⟩ (.bool false)).setCell ⟨w.heap.size,5,none⟩ (.int .i64 0)).setCell ⟨w.heap.size,6,none⟩ (.int .i64 0)).setCell ⟨w.heap.size,7,none⟩ (.int .i64 0)).setCell ⟨w.heap.size,8,none⟩ (.int .i64 0)).setCell ⟨w.heap.size+1,0,none⟩ (.int .i64 (L:Int))).setCell ⟨w.heap.size+1,1,none⟩ (.int .i64 (C:Int)))).drew:=((Q1.out.set 0 _).set 1 _).dr
  have hbz:Below w.heap.size w ((((((((((((w5.setCell ⟨w.heap.size,0,none⟩ (.slice none 0 0)).setCell ⟨w.heap.size,1,none⟩ (.slice none 0 0)).setCell ⟨w.heap.size,2,none⟩ (.slice none 0 0)).setCell ⟨w.heap.size,3,none⟩ (.slice none 0 0)).setCell ⟨w.heap.size,4,none⟩ (.bool false)).setCell ⟨w.heap.size,5,none⟩ (.int .i64 0)).setCell ⟨w.heap.size,6,none⟩ (.int .i64 0)).setCell ⟨w.heap.size,7,none⟩ (.int .i64 0)).setCell ⟨w.heap.size,8,none⟩ (.int .i64 0)).setCell ⟨w.heap.size+1,0,none⟩ (.int .i64 (L:Int))).setCell ⟨w.heap.size+1,1,none⟩ (.int .i64 (C:Int)))).drew:=by
   refine Below.drew ?_
   iterate 11 refine Below.setCell ?_ (by dsimp only;omega) _
   exact HBW.out
  go_wp2_with fail
  simp only [Exit.jump]
  generalize ((((((((((((w5.setCell ⟨w.heap.size,0,none⟩ (.slice none 0 0)).setCell ⟨w.heap.size,1,none⟩ (.slice none 0 0)).setCell ⟨w.heap.size,2,none⟩ (.slice none 0 0)).setCell ⟨w.heap.size,3,none⟩ (.slice none 0 0)).setCell ⟨w.heap.size,4,none⟩ (.bool false)).setCell ⟨w.heap.size,5,none⟩ (.int .i64 0)).setCell ⟨w.heap.size,6,none⟩ (.int .i64 0)).setCell ⟨w.heap.size,7,none⟩ (.int .i64 0)).setCell ⟨w.heap.size,8,none⟩ (.int .i64 0)).setCell ⟨w.heap.size+1,0,none⟩ (.int .i64 (L:Int))).setCell ⟨w.heap.size+1,1,none⟩ (.int .i64 (C:Int)))).drew=wz at z1 z2 hbz ⊢
  have g0:=z1.at 0 rfl;have g1:=z1.at 1 rfl;have g2:=z1.at 2 rfl;have g3:=z1.at 3 rfl;have g4:=z1.at 4 rfl;have g5:=z1.at 5 rfl;have g6:=z1.at 6 rfl;have g7:=z1.at 7 rfl;have g8:=z1.at 8 rfl;have k0:=z2.at 0 rfl;have k1:=z2.at 1 rfl
  clear z1 z2
  refine bodyPost_ret (v := .tuple #[.agg #[.slice none 0 0,.slice none 0 0,.slice none 0 0,.slice none 0 0,.bool false,.int .i64 0,.int .i64 0,.int .i64 0,.int .i64 0],.agg #[.int .i64 (L:Int),.int .i64 (C:Int)],.int .i64 c]) (by simp [results,Tryd.results17,go_sem,g0,g1,g2,g3,g4,g5,g6,g7,g8,k0,k1]) rfl ?_
  exact refusedL HPE.out hbz
 | ok out =>
  obtain ⟨hsl,htk⟩:=linesR_ok hlr
  have HWK:=hid (tok_wok hsl htk)
  have HPQ:=hid (parseQ_of hlr)
  have HP:=hid (show LinesPost s w3=_ from by unfold LinesPost;rw [hlr])
  have hcn:s.count 10≤65536:=Nat.le_trans List.count_le_length hsl
  obtain ⟨cn,hcn'⟩:∃ n,s.count 10=n:=⟨_,rfl⟩
  obtain ⟨li,hli⟩:∃ z,Lib.lastIndexByte ⟨s.toArray⟩ 10=z:=⟨_,rfl⟩
  have hlb : -1≤li∧li≤65536:=by
   rw [← hli]
   rcases Lib.lastIndexByte_spec ⟨s.toArray⟩ 10 with ⟨e,_⟩ | ⟨i,hi,e,_⟩
   ·rw [e];decide
   ·have hi':i<s.length:=hi
    rw [e];omega
  have HEO:=hid (show endOf s=(1+(cn:Int),(s.length:Int) - li) from by unfold endOf;rw [hcn',← hli,col_end])
  have HCN:=hid (show ∀ W,Calls Tryd.prog 48 #[.string ⟨s.toArray⟩,.string ⟨#[10]⟩] W (fun e w'=>e = .returned (.int .i64 (cn:Int))∧w'=W) from fun W=>by have h:=Tryd.strings_Count_one ⟨s.toArray⟩ 10 W;rw [show Lib.countByte (ByteArray.mk s.toArray).data.toList 10=cn from hcn'] at h;exact h)
  have HLI:=hid (show ∀ W,Calls Tryd.prog 49 #[.string ⟨s.toArray⟩,.string ⟨#[10]⟩] W (fun e w'=>e = .returned (.int .i64 li)∧w'=W) from fun W=>by have h:=Tryd.strings_LastIndex_one ⟨s.toArray⟩ ⟨#[10]⟩ rfl (by show s.length<_;omega) W;rw [show ((((ByteArray.mk #[10])[0]'(by decide)).toNat:Nat):Int)=10 from rfl,hli] at h;exact h)
  rw [hcn'] at hcn
  have hwr:wrap64 ((s.length:Int) - li)=(s.length:Int) - li:=by unfold wrap64;omega
  obtain ⟨h1,h2⟩:=hlb
  clear hlr htk hli hcn'
  obtain ⟨LO,hLO⟩:∃ n,out.length=n:=⟨_,rfl⟩
  have HLO:=hid hLO
  clear hLO
  go_upto_region 2 with (go_at_call 47;refine HLN.out.mono ?_;rw [HP.out];rintro e w4 ⟨hb,v,rfl,hwl,-⟩;obtain ⟨pv,cv,hv⟩:=hwl.slc;rw [HLO.out] at hv;subst hv;have HB4:=hid hb;have HWL:=hid hwl;clear hb hwl)
  have HLE:=hid (show LO≤140737488355328 from by rw [← HLO.out];exact HWL.out.len)
  obtain ⟨w5,hw5⟩:∃ W,w4.alloc (.cells #[.int .i64 0,.int .i64 0] 42)=W:=⟨_,rfl⟩
  have HB5:=hid (show Below w4.heap.size w4 w5 from by rw [← hw5];exact (Below.refl _ _).alloc (Nat.le_refl _) _)
  rw [hw5]
  clear hw5
  go_upto_region 5 with (first | (go_at_call 48;(with_reducible refine (HCN.out _).mono ?_);rintro e w1 ⟨rfl,rfl⟩) | (go_at_call 49;(with_reducible refine (HLI.out _).mono ?_);rintro e w1 ⟨rfl,rfl⟩))
  clear hwr h1 h2 hcn hsl
  obtain ⟨o8,ho8⟩:∃ n,w1.heap.size=n:=⟨_,rfl⟩
  obtain ⟨w6,hw6⟩:∃ W,w1.alloc (.cells #[.int .i64 (1+(cn:Int)),.int .i64 ((s.length:Int) - li)] 42)=W:=⟨_,rfl⟩
  have h86:BxL 42 o8 [.int .i64 (1+(cn:Int)),.int .i64 ((s.length:Int) - li)] w6:=by rw [← hw6,← ho8];exact BxL.new _ _ _
  have hb6:Below w1.heap.size w1 w6:=by rw [← hw6];exact (Below.refl _ _).alloc (Nat.le_refl _) _
  obtain ⟨b,hb⟩:∃ n,w6.heap.size=n:=⟨_,rfl⟩
  have hs6:b=o8+1:=by rw [← hb,← hw6,World.size_alloc,ho8]
  rw [hw6,ho8]
  clear hw6
  have H86:=hid h86;have HB6:=hid hb6;have HBS:=hid hb;have HS6:=hid hs6;have HO8:=hid ho8
  clear h86 hb6 hb hs6 ho8
  go_wp2_with fail
  rw [HBS.out]
  obtain ⟨w7,hw7⟩:∃ W,(((w6.alloc (.cells #[.slice none 0 0,.slice none 0 0,.slice none 0 0,.slice none 0 0,.bool false,.int .i64 0,.int .i64 0,.int .i64 0,.int .i64 0,.slice none 0 0,.int .i64 0,.int .i64 0,.int .i64 0,.int .i64 0] 93)).alloc (.cells #[.pointer (some ⟨b,0,none⟩)] 90)).alloc (.cells #[.int .i64 0,.int .i64 0] 42)).alloc (.cells #[.bool false] 4)=W:=⟨_,rfl⟩
  have hpi:PInv b w6 (.slice none 0 0) (.slice none 0 0) (.slice none 0 0) (.slice none 0 0) (.slice none 0 0) 0 ls0 w7:=by
   have hb:=HBS.out
   subst hb
   have a0:=BxL.new 93 w6 [.slice none 0 0,.slice none 0 0,.slice none 0 0,.slice none 0 0,.bool false,.int .i64 0,.int .i64 0,.int .i64 0,.int .i64 0,.slice none 0 0,.int .i64 0,.int .i64 0,.int .i64 0,.int .i64 0]
   have a1:=BxL.new 90 (w6.alloc (.cells #[.slice none 0 0,.slice none 0 0,.slice none 0 0,.slice none 0 0,.bool false,.int .i64 0,.int .i64 0,.int .i64 0,.int .i64 0,.slice none 0 0,.int .i64 0,.int .i64 0,.int .i64 0,.int .i64 0] 93)) [.pointer (some ⟨w6.heap.size,0,none⟩)]
   have a2:=BxL.new 42 ((w6.alloc (.cells #[.slice none 0 0,.slice none 0 0,.slice none 0 0,.slice none 0 0,.bool false,.int .i64 0,.int .i64 0,.int .i64 0,.int .i64 0,.slice none 0 0,.int .i64 0,.int .i64 0,.int .i64 0,.int .i64 0] 93)).alloc (.cells #[.pointer (some ⟨w6.heap.size,0,none⟩)] 90)) [.int .i64 0,.int .i64 0]
   have a3:=BxL.new 4 (((w6.alloc (.cells #[.slice none 0 0,.slice none 0 0,.slice none 0 0,.slice none 0 0,.bool false,.int .i64 0,.int .i64 0,.int .i64 0,.int .i64 0,.slice none 0 0,.int .i64 0,.int .i64 0,.int .i64 0,.int .i64 0] 93)).alloc (.cells #[.pointer (some ⟨w6.heap.size,0,none⟩)] 90)).alloc (.cells #[.int .i64 0,.int .i64 0] 42)) [.bool false]
   simp only [World.size_alloc] at a1 a2 a3
   rw [← hw7]
   refine ⟨((a0.al _).al _).al _,GR.nil _ _ _ _ _,GR.nil _ _ _ _ _,GR.nil _ _ _ _ _,GR.nil _ _ _ _ _,fun k h=>(by cases h),⟨a3,(a1.al _).al _,a2.al _,by omega,by omega,by omega⟩,?_⟩
   exact ((((Below.refl _ _).alloc (Nat.le_refl _) _).alloc (by simp only [World.size_alloc];omega) _).alloc (by simp only [World.size_alloc];omega) _).alloc (by simp only [World.size_alloc];omega) _
  rw [hw7]
  clear hw7
  have HPI:=hid hpi
  clear hpi
  have H16:=hid (H13.out.bel (HB4.out.trans ((HB5.out.trans (HB6.out.mono HB5.out.size)).mono HB4.out.size)))
  have H26:=hid (H23.out.bel (HB4.out.trans ((HB5.out.trans (HB6.out.mono HB5.out.size)).mono HB4.out.size)))
  have HBW:=hid (show Below w.heap.size w w6 from HB3.out.trans ((HB4.out.trans ((HB5.out.trans (HB6.out.mono HB5.out.size)).mono HB4.out.size)).mono (by have:=HS3.out;omega)))
  have HLB:=hid (show w.heap.size+1<b from by have h1:=H26.out.lt;rw [HBS.out] at h1;exact h1)
  have HK6:=hid (HK.out.keep HBW.out);have HR6:=hid (HBR.out.keep HBW.out)
  go_loopw [10,43] (fun av iv wr=>∃ (j:Nat) (st:LS) (Z:Nat) (vl vo vc vs wv:Value) (ix:Nat),j≤LO∧av = .int .i64 (st.k:Int)∧iv = .int .i64 (j:Int)∧linesQ ls0 out=linesQ st (out.drop j)∧VS st Z∧st.p.od.length≤1024∧PInv b w6 vl vo vc vs wv ix st wr∧WoB b w6 wv ix st) (fun _ iv _=>LO - (intOf iv).toNat)
  case atStart=>exact ⟨0,ls0,0,_,_,_,_,_,0,Nat.zero_le _,rfl,rfl,rfl,VS.zero,Nat.zero_le _,HPI.out,.inl rfl⟩
  case round =>
   obtain ⟨j,st,Z,vl,vo,vc,vs,wv,ix,hj,rfl,rfl,hl,hvs,hod,hpi,hwo⟩:=hrel
   by_cases hlt:j<LO
   ·skip
    have t1:decide ((j:Int)<(LO:Int))=true:=decide_eq_true (by omega)
    have hjl:j<out.length:=by rw [HLO.out];exact hlt
    have HJL:=hid hjl
    obtain ⟨lb,off,q,cq,hpv,hR,hcell,hrow⟩:=HWL.out.at' hjl
    subst hpv
    have hwk:=HWK.out _ (List.getElem_mem hjl)
    obtain ⟨ws,hws⟩:∃ l,out[j]'hjl=l:=⟨_,rfl⟩
    rw [hws] at hcell hrow hwk
    have HWS:=hid hws
    have hb46:Below w4.heap.size w4 w6:=HB5.out.trans (HB6.out.mono HB5.out.size)
    have hb4b:w4.heap.size≤b:=by rw [← HBS.out];exact hb46.size
    have hl4:lb<w4.heap.size:=hR.2.size
    have hrow6:RowR (·<b) w6 q (wflat ws):=hrow.keep fun i hi=>⟨Nat.lt_of_lt_of_le hi.2.size hb4b,hb46.block i hi.2.size⟩
    have c0:wr.cell? ⟨lb,off+j,none⟩=some (.slice q ws.length cq):=(hpi.bel.cell (p:=⟨lb,off+j,none⟩) (Nat.lt_of_lt_of_le hl4 hb4b)).trans ((hb46.cell (p:=⟨lb,off+j,none⟩) hl4).trans hcell)
    have h8:=hpi.load (cw:=cq) hrow6 hwk
    have h8o:=hpi.loadO (.slice q ws.length cq) (.int .i64 1)
    have h8b:=hpi.loadB (.slice q ws.length cq) (.int .i64 1)
    obtain ⟨lw,ow,rfl,hlw,hw0⟩:=h8.rr.at
    have hw0:=hw0 0 hwk.pos
    obtain ⟨x,hx⟩:∃ x,ws[0]'hwk.pos=x:=⟨_,rfl⟩
    have HHD:=hid (show ws.headD wd0=x from by rw [hd_at hwk.pos,hx])
    rw [hx,show ow+0*3=ow from by omega] at hw0
    have hpos:=hwk.pos
    obtain ⟨NW,hNW⟩:∃ n,ws.length=n:=⟨_,rfl⟩
    rw [hNW] at c0 h8 h8o h8b hw0 hpos
    have d2:=hpi.ord.c2.at 0 rfl
    have hS:(fun W:World=>W.cell? ⟨b+1,0,none⟩=some (.pointer (some ⟨b,0,none⟩))) wr.drew:=d2
    have d2':(fun W:World=>W.cell? ⟨b+1,0,none⟩=some (.pointer (some ⟨b,0,none⟩))) (wr.setCell ⟨b,9,none⟩ (.slice (some ⟨lw,ow,none⟩) NW cq)).drew:=(hpi.ord.but ((But.refl (fun i=>i=b) wr).setC _ (.inl rfl))).c2.at 0 rfl
    have d2'':(fun W:World=>W.cell? ⟨b+1,0,none⟩=some (.pointer (some ⟨b,0,none⟩))) ((wr.setCell ⟨b,9,none⟩ (.slice (some ⟨lw,ow,none⟩) NW cq)).setCell ⟨b,10,none⟩ (.int .i64 1)).drew:=h8o.c2.at 0 rfl
    have hS1:=d2';have hS2:=d2''
    have e9:=hpi.box.at 9 rfl;have e10:=hpi.box.at 10 rfl;have f9:=hpi.box.fr 9;have f10:=hpi.box.fr 10
    have HROW:=hid hrow6
    clear hwo
    have H8:=hid h8;have H8O:=hid h8o;have H8B:=hid h8b;have HW0:=hid hw0
    have HL:=hid hl;have HVS:=hid hvs;have HOD:=hid hod;have HJ:=hid hj;have HLT:=hid hlt
    have HK8:=hid hvs.k8
    clear hR hcell hrow hwk hws hb46 hb4b hl4 hrow6 h8 h8o h8b hw0 hx hlw hl hvs hod hpi d2 d2' d2'' hj hNW
    go_upto_region 12 with fail
    have hFa:=fT
    refine rgN (fun W:World=>W.cell? ⟨b+1,0,none⟩=some (.pointer (some ⟨b,0,none⟩))) 9 (by kernel_rfl) ?_
    simp only [List.size_toArray,List.length_cons,List.length_nil,Nat.reduceAdd]
    iterate 5 (refine wpHJ_nx (v:=?_) 9 rfl rfl (by kernel_rfl) nE hS ?_ ?_;rotate_left;(focus refine Or.inl ⟨by rfl,?_⟩;rintro w' s0;go_simp;try rfl);simp only [Act.put,actP,actQ])
    refine wpHJ_only 5 (by kernel_rfl) rfl (fun K hK=>?_)
    go_simp
    refine hK _ _ (.inr (.inr hS1)) ?_
    clear hK K
    iterate 2 (refine wpHJ_nx (v:=?_) 9 rfl rfl (by kernel_rfl) nE hS1 ?_ ?_;rotate_left;(focus refine Or.inl ⟨by rfl,?_⟩;rintro w' s0;go_simp;try rfl);simp only [Act.put,actP,actQ])
    refine wpHJ_only 8 (by kernel_rfl) rfl (fun K hK=>?_)
    go_simp
    refine hK _ _ (.inr (.inr hS2)) ?_
    clear hK K
    refine wpHJ_done (by kernel_rfl) ?_ _
    simp only [onlyN,Exit.then]
    clear hFa
    clear hS hS1 hS2 e9 e10 f9 f10 c0
    obtain ⟨w8,hw8⟩:∃ W,((wr.setCell ⟨b,9,none⟩ (.slice (some ⟨lw,ow,none⟩) NW cq)).setCell ⟨b,10,none⟩ (.int .i64 1)).drew=W:=⟨_,rfl⟩
    have HW8:=hid (show RwL b vl vo vc vs (some ⟨lw,ow,none⟩) cq ws (rs1 st.p) w8 from by rw [← hw8];exact H8.out.below (Below.refl _ _).drew)
    have HO8:=hid (show OrdB b (b+1+1+1) (b+1) (b+1+1) st.ord st.last w8 from by rw [← hw8];exact H8O.out.but (But.of_below _ (Below.refl _ _).drew))
    have HB8:=hid (show Below b w6 w8 from by rw [← hw8];exact H8B.out.drew)
    have hw:w8.cell? ⟨lw,ow,none⟩=some (.string ⟨x.1.toArray⟩)∧w8.cell? ⟨lw,ow+1,none⟩=some (.int .i64 (x.2.1:Int))∧w8.cell? ⟨lw,ow+2,none⟩=some (.int .i64 (x.2.2:Int)):=by rw [← hw8];exact HW0.out
    rw [hw8]
    clear hw8
    have HT8:=hid (HK6.out.keep (by rw [HBS.out];exact HB8.out));have HR8:=hid (HR6.out.keep (by rw [HBS.out];exact HB8.out))
    obtain ⟨x0,x1,x2⟩:=hw
    obtain ⟨pl,cl,hvl⟩:=HW8.out.gl.slc
    obtain ⟨NL,hNL⟩:∃ n,st.p.lv.length=n:=⟨_,rfl⟩
    have d0:w8.cell? ⟨b,0,none⟩=some (.slice pl NL cl):=by rw [← hNL];exact (HW8.out.rr.box.at 0 rfl).trans (congrArg some hvl)
    have d2:=HO8.out.c2.at 0 rfl
    have HNL:=hid hNL
    have HE:=hid (show st.p.lv.isEmpty=decide (NL=0) from by rw [← hNL];cases st.p.lv <;> simp)
    have hst:st.k≤8:=HK8.out
    clear hvl hNL
    obtain ⟨sp,hsp⟩:∃ o,stepP x.1 st.k=o:=⟨_,rfl⟩
    have HSP:=hid hsp
    clear hsp
    cases sp with
    | none =>
     have HST:=hid (show Calls Tryd.prog 52 #[.string ⟨x.1.toArray⟩,.int .i64 (st.k:Int),.bool false] w8 (fun e w'=>e = .returned (.int .i64 (-1))∧w'=w8) from by have h:=step_po x.1 st.k w8 (by have:=HK8.out;omega) HT8.out;rw [HSP.out] at h;exact h)
     by_cases hz:NL=0
     ·skip
      have tz:((NL:Int) == 0)=true:=by rw [hz];rfl
      have hk0:st.k=0:=by
       refine Classical.byContradiction fun h=>(HVS.out.ne (by omega)) ?_
       have h2:=HE.out
       rw [hz,decide_eq_true rfl] at h2
       exact List.isEmpty_iff.1 h2
      have hk1:st.k≤1:=by omega
      have tk:decide ((st.k:Int)≤1)=true:=decide_eq_true (by omega)
      have tk':(st.k:Int)≤1:=by omega
      have HEM:=hid (show st.p.lv.isEmpty=true from by rw [HE.out,hz];rfl)
      have HCE:=hid (show (st.ord || (rs1 st.p).p.lv.isEmpty)=true from by rw [show (rs1 st.p).p.lv.isEmpty=true from HEM.out];simp)
      have HK1:=hid hk1
      clear hk1 hk0 hz
      have HOR:=hid (order_e HW8.out HO8.out (by have:=HVS.out.lv.2.2;show st.p.lv.length≤2000;omega) (by have:=HOD.out;show st.p.od.length≤2000;omega) HR8.out HCE.out)
      go_upto_region 18 with (first | (go_at_call 52;(with_reducible refine HST.out.mono ?_);rintro e w9 ⟨rfl,h9⟩;have h9:=h9.symm;subst h9) | (go_at_call 50;(with_reducible refine HOR.out.mono ?_);rintro e w9 ⟨rfl,h9⟩;have h9:=h9.symm;subst h9))
      have HWd:=hid ((HW8.out.below (Below.refl _ _).drew:RwL b vl vo vc vs (some ⟨lw,ow,none⟩) cq ws (rs1 st.p) w8.drew));have HOd:=hid (HO8.out.but (But.of_below _ (Below.refl w8.heap.size w8).drew));have HBd:=hid HB8.out.drew
      have HFA:=hid (show Calls Tryd.prog 51 #[.pointer (some ⟨b,0,none⟩),.agg #[.int .i64 (x.2.1:Int),.int .i64 (x.2.2:Int)],.int .i64 4] w8.drew (RrP b vl vo vc vs (some ⟨lw,ow,none⟩) cq ws (.tuple #[]) (failR (rs1 st.p) (wpos x) 4) w8.drew) from fail_po (wpos x) 4 HWd.out.rr)
      have hS:(fun W:World=>W.cell? ⟨b+1,0,none⟩=some (.pointer (some ⟨b,0,none⟩))∧W.cell? ⟨lw,ow+1,none⟩=some (.int .i64 (x.2.1:Int))∧W.cell? ⟨lw,ow+2,none⟩=some (.int .i64 (x.2.2:Int))) w8.drew:=⟨HOd.out.c2.at 0 rfl,(HWd.out.w0 HHD.out).2.1,(HWd.out.w0 HHD.out).2.2⟩
      have hFa:=fT
      refine rgN (fun W:World=>W.cell? ⟨b+1,0,none⟩=some (.pointer (some ⟨b,0,none⟩))∧W.cell? ⟨lw,ow+1,none⟩=some (.int .i64 (x.2.1:Int))∧W.cell? ⟨lw,ow+2,none⟩=some (.int .i64 (x.2.2:Int))) 6 (by kernel_rfl) ?_
      simp only [List.size_toArray,List.length_cons,List.length_nil,Nat.reduceAdd]
      iterate 5 (refine wpHJ_nx (v:=?_) 6 rfl rfl (by kernel_rfl) nE hS ?_ ?_;rotate_left;(focus refine Or.inl ⟨by rfl,?_⟩;rintro w' ⟨s0,s1,s2⟩;go_simp;try rfl);simp only [Act.put,actP,actQ])
      refine wpHJ_only 5 (by kernel_rfl) rfl (fun K hK=>?_)
      go_simp
      (with_reducible refine (callsIn_wide.2 HFA.out).mono ?_)
      rintro e wz ⟨rfl,hrz,hbz⟩
      have HWz:=hid (HWd.out.on hrz (failR_p _ _ _) hbz);have HOz:=hid (HOd.out.but hbz);have HBz:=hid (HBd.out.trans (hbz.below (Nat.le_of_lt HWd.out.rr.box.lt) (fun k e=>Nat.le_of_eq e.symm)))
      rw [fail1] at HWz
      have hSz:(fun W:World=>W.cell? ⟨b+1,0,none⟩=some (.pointer (some ⟨b,0,none⟩))∧W.cell? ⟨lw,ow+1,none⟩=some (.int .i64 (x.2.1:Int))∧W.cell? ⟨lw,ow+2,none⟩=some (.int .i64 (x.2.2:Int))) wz:=⟨HOz.out.c2.at 0 rfl,(HWz.out.w0 HHD.out).2.1,(HWz.out.w0 HHD.out).2.2⟩
      clear hrz hbz hS
      refine hK _ _ (.inr (.inr hSz)) ?_
      clear hK K
      refine wpHJ_done (by kernel_rfl) ?_ _
      simp only [onlyN,Exit.then]
      clear hFa
      clear hSz
      go_wp2_with fail
      refine wp_goto ?_
      have hz1:=H16.out.keep (HBz.out.block _ (by have:=HLB.out;omega));have hz2:=H26.out.keep (HBz.out.block _ (by have:=HLB.out;omega))
      exact (show 0=0∧JG s w _ _ from ⟨rfl,JG.mk (b+1) b (wpos x,4) _ rfl HOz.out.c2 HWz.out.rr.box rfl rfl rfl (pq_line HPQ.out HL.out HJL.out (by rw [HWS.out];exact (by have h:=lineQ_n1 (kindQ_none (by rw [HHD.out];exact HSP.out)) HK1.out (orderQ_e HEM.out);rw [HHD.out] at h;exact h))) hz1 hz2 (HBW.out.trans (HBz.out.mono (by have:=HLB.out;omega))) (by have:=HLB.out;omega) (by have:=HLB.out;omega)⟩)
     have tz:((NL:Int) == 0)=false:=by rw [beq_eq_false_iff_ne];omega
     have HEM:=hid (show st.p.lv.isEmpty=false from by rw [HE.out,decide_eq_false hz])
     by_cases hk1:st.k≤1
     ·skip
      have tk:decide ((st.k:Int)≤1)=true:=decide_eq_true (by omega)
      have tk':(st.k:Int)≤1:=by omega
      have HCE:=hid (show (st.ord || (rs1 st.p).p.lv.isEmpty)=false from by rw [show (rs1 st.p).p.lv.isEmpty=false from HEM.out,HVS.out.or hk1];rfl)
      have HK1:=hid hk1
      clear hk1 hz
      by_cases hla:latE st.p.lv.length st.p.od=0
      ·have HLA:=hid (show latE (rs1 st.p).p.lv.length (rs1 st.p).p.od=0 from hla)
       clear hla
       have HOR:=hid (order_y HW8.out HO8.out (by have:=HVS.out.lv.2.2;show st.p.lv.length≤2000;omega) (by have:=HOD.out;show st.p.od.length≤2000;omega) HR8.out HCE.out HLA.out)
       go_upto_region 18 with (first | (go_at_call 52;(with_reducible refine HST.out.mono ?_);rintro e w9 ⟨rfl,h9⟩;have h9:=h9.symm;subst h9) | (go_at_call 50;(with_reducible refine HOR.out.mono ?_);rintro e w9 ⟨rfl,hw9,ho9,hb9⟩;have HW9:=hid hw9;have HO9:=hid ho9;have HB9:=hid (HB8.out.trans hb9);clear hw9 ho9 hb9))
       have HWd:=hid ((HW9.out.below (Below.refl _ _).drew:RwL b vl vo vc vs (some ⟨lw,ow,none⟩) cq ws (rs1 st.p) w9.drew));have HOd:=hid (HO9.out.but (But.of_below _ (Below.refl w9.heap.size w9).drew));have HBd:=hid HB9.out.drew
       have HFA:=hid (show Calls Tryd.prog 51 #[.pointer (some ⟨b,0,none⟩),.agg #[.int .i64 (x.2.1:Int),.int .i64 (x.2.2:Int)],.int .i64 4] w9.drew (RrP b vl vo vc vs (some ⟨lw,ow,none⟩) cq ws (.tuple #[]) (failR (rs1 st.p) (wpos x) 4) w9.drew) from fail_po (wpos x) 4 HWd.out.rr)
       have hS:(fun W:World=>W.cell? ⟨b+1,0,none⟩=some (.pointer (some ⟨b,0,none⟩))∧W.cell? ⟨lw,ow+1,none⟩=some (.int .i64 (x.2.1:Int))∧W.cell? ⟨lw,ow+2,none⟩=some (.int .i64 (x.2.2:Int))) w9.drew:=⟨HOd.out.c2.at 0 rfl,(HWd.out.w0 HHD.out).2.1,(HWd.out.w0 HHD.out).2.2⟩
       have hFa:=fT
       refine rgN (fun W:World=>W.cell? ⟨b+1,0,none⟩=some (.pointer (some ⟨b,0,none⟩))∧W.cell? ⟨lw,ow+1,none⟩=some (.int .i64 (x.2.1:Int))∧W.cell? ⟨lw,ow+2,none⟩=some (.int .i64 (x.2.2:Int))) 6 (by kernel_rfl) ?_
       simp only [List.size_toArray,List.length_cons,List.length_nil,Nat.reduceAdd]
       iterate 5 (refine wpHJ_nx (v:=?_) 6 rfl rfl (by kernel_rfl) nE hS ?_ ?_;rotate_left;(focus refine Or.inl ⟨by rfl,?_⟩;rintro w' ⟨s0,s1,s2⟩;go_simp;try rfl);simp only [Act.put,actP,actQ])
       refine wpHJ_only 5 (by kernel_rfl) rfl (fun K hK=>?_)
       go_simp
       (with_reducible refine (callsIn_wide.2 HFA.out).mono ?_)
       rintro e wz ⟨rfl,hrz,hbz⟩
       have HWz:=hid (HWd.out.on hrz (failR_p _ _ _) hbz);have HOz:=hid (HOd.out.but hbz);have HBz:=hid (HBd.out.trans (hbz.below (Nat.le_of_lt HWd.out.rr.box.lt) (fun k e=>Nat.le_of_eq e.symm)))
       rw [fail1] at HWz
       have hSz:(fun W:World=>W.cell? ⟨b+1,0,none⟩=some (.pointer (some ⟨b,0,none⟩))∧W.cell? ⟨lw,ow+1,none⟩=some (.int .i64 (x.2.1:Int))∧W.cell? ⟨lw,ow+2,none⟩=some (.int .i64 (x.2.2:Int))) wz:=⟨HOz.out.c2.at 0 rfl,(HWz.out.w0 HHD.out).2.1,(HWz.out.w0 HHD.out).2.2⟩
       clear hrz hbz hS
       refine hK _ _ (.inr (.inr hSz)) ?_
       clear hK K
       refine wpHJ_done (by kernel_rfl) ?_ _
       simp only [onlyN,Exit.then]
       clear hFa
       clear hSz
       go_wp2_with fail
       refine wp_goto ?_
       have hz1:=H16.out.keep (HBz.out.block _ (by have:=HLB.out;omega));have hz2:=H26.out.keep (HBz.out.block _ (by have:=HLB.out;omega))
       exact (show 0=0∧JG s w _ _ from ⟨rfl,JG.mk (b+1) b (wpos x,4) _ rfl HOz.out.c2 HWz.out.rr.box rfl rfl rfl (pq_line HPQ.out HL.out HJL.out (by rw [HWS.out];exact (by have h:=lineQ_n1 (kindQ_none (by rw [HHD.out];exact HSP.out)) HK1.out (orderQ_yes HCE.out HLA.out);rw [HHD.out] at h;exact h))) hz1 hz2 (HBW.out.trans (HBz.out.mono (by have:=HLB.out;omega))) (by have:=HLB.out;omega) (by have:=HLB.out;omega)⟩)
      ·have HLA:=hid (show latE (rs1 st.p).p.lv.length (rs1 st.p).p.od ≠ 0 from hla)
       clear hla
       have HOR:=hid (order_n HW8.out HO8.out (by have:=HVS.out.lv.2.2;show st.p.lv.length≤2000;omega) (by have:=HOD.out;show st.p.od.length≤2000;omega) HR8.out HCE.out HLA.out)
       go_wp2_with (first | (go_at_call 52;(with_reducible refine HST.out.mono ?_);rintro e w9 ⟨rfl,h9⟩;have h9:=h9.symm;subst h9) | (go_at_call 50;(with_reducible refine HOR.out.mono ?_);rintro e w9 ⟨rfl,hw9,ho9,hb9⟩;rw [fail1] at hw9;have HW9:=hid hw9;have HO9:=hid ho9;have HB9:=hid (HB8.out.trans hb9);clear hw9 ho9 hb9))
       refine wp_goto ?_
       have hz1:=H16.out.keep (HB9.out.block _ (by have:=HLB.out;omega));have hz2:=H26.out.keep (HB9.out.block _ (by have:=HLB.out;omega))
       exact (show 0=0∧JG s w _ _ from ⟨rfl,JG.mk (b+1) b (st.last,latE st.p.lv.length st.p.od) _ rfl HO9.out.c2 HW9.out.rr.box rfl rfl rfl (pq_line HPQ.out HL.out HJL.out (by rw [HWS.out];exact lineQ_oe (by rw [HHD.out,kindQ_none HSP.out];rfl) HK1.out (orderQ_no HCE.out HLA.out))) hz1 hz2 (HBW.out.trans (HB9.out.mono (by have:=HLB.out;omega))) (by have:=HLB.out;omega) (by have:=HLB.out;omega)⟩)
     have tk:decide ((st.k:Int)≤1)=false:=decide_eq_false (by omega)
     have tk':¬ (st.k:Int)≤1:=by omega
     have HK1:=hid hk1
     clear hk1 hz
     go_upto_region 18 with (go_at_call 52;(with_reducible refine HST.out.mono ?_);rintro e w9 ⟨rfl,h9⟩;have h9:=h9.symm;subst h9)
     have HWd:=hid ((HW8.out.below (Below.refl _ _).drew:RwL b vl vo vc vs (some ⟨lw,ow,none⟩) cq ws (rs1 st.p) w8.drew));have HOd:=hid (HO8.out.but (But.of_below _ (Below.refl w8.heap.size w8).drew));have HBd:=hid HB8.out.drew
     have HFA:=hid (show Calls Tryd.prog 51 #[.pointer (some ⟨b,0,none⟩),.agg #[.int .i64 (x.2.1:Int),.int .i64 (x.2.2:Int)],.int .i64 4] w8.drew (RrP b vl vo vc vs (some ⟨lw,ow,none⟩) cq ws (.tuple #[]) (failR (rs1 st.p) (wpos x) 4) w8.drew) from fail_po (wpos x) 4 HWd.out.rr)
     have hS:(fun W:World=>W.cell? ⟨b+1,0,none⟩=some (.pointer (some ⟨b,0,none⟩))∧W.cell? ⟨lw,ow+1,none⟩=some (.int .i64 (x.2.1:Int))∧W.cell? ⟨lw,ow+2,none⟩=some (.int .i64 (x.2.2:Int))) w8.drew:=⟨HOd.out.c2.at 0 rfl,(HWd.out.w0 HHD.out).2.1,(HWd.out.w0 HHD.out).2.2⟩
     have hFa:=fT
     refine rgN (fun W:World=>W.cell? ⟨b+1,0,none⟩=some (.pointer (some ⟨b,0,none⟩))∧W.cell? ⟨lw,ow+1,none⟩=some (.int .i64 (x.2.1:Int))∧W.cell? ⟨lw,ow+2,none⟩=some (.int .i64 (x.2.2:Int))) 6 (by kernel_rfl) ?_
     simp only [List.size_toArray,List.length_cons,List.length_nil,Nat.reduceAdd]
     iterate 5 (refine wpHJ_nx (v:=?_) 6 rfl rfl (by kernel_rfl) nE hS ?_ ?_;rotate_left;(focus refine Or.inl ⟨by rfl,?_⟩;rintro w' ⟨s0,s1,s2⟩;go_simp;try rfl);simp only [Act.put,actP,actQ])
     refine wpHJ_only 5 (by kernel_rfl) rfl (fun K hK=>?_)
     go_simp
     (with_reducible refine (callsIn_wide.2 HFA.out).mono ?_)
     rintro e wz ⟨rfl,hrz,hbz⟩
     have HWz:=hid (HWd.out.on hrz (failR_p _ _ _) hbz);have HOz:=hid (HOd.out.but hbz);have HBz:=hid (HBd.out.trans (hbz.below (Nat.le_of_lt HWd.out.rr.box.lt) (fun k e=>Nat.le_of_eq e.symm)))
     rw [fail1] at HWz
     have hSz:(fun W:World=>W.cell? ⟨b+1,0,none⟩=some (.pointer (some ⟨b,0,none⟩))∧W.cell? ⟨lw,ow+1,none⟩=some (.int .i64 (x.2.1:Int))∧W.cell? ⟨lw,ow+2,none⟩=some (.int .i64 (x.2.2:Int))) wz:=⟨HOz.out.c2.at 0 rfl,(HWz.out.w0 HHD.out).2.1,(HWz.out.w0 HHD.out).2.2⟩
     clear hrz hbz hS
     refine hK _ _ (.inr (.inr hSz)) ?_
     clear hK K
     refine wpHJ_done (by kernel_rfl) ?_ _
     simp only [onlyN,Exit.then]
     clear hFa
     clear hSz
     go_wp2_with fail
     refine wp_goto ?_
     have hz1:=H16.out.keep (HBz.out.block _ (by have:=HLB.out;omega));have hz2:=H26.out.keep (HBz.out.block _ (by have:=HLB.out;omega))
     exact (show 0=0∧JG s w _ _ from ⟨rfl,JG.mk (b+1) b (wpos x,4) _ rfl HOz.out.c2 HWz.out.rr.box rfl rfl rfl (pq_line HPQ.out HL.out HJL.out (by rw [HWS.out];exact (by have h:=lineQ_n2 (kindQ_none (by rw [HHD.out];exact HSP.out)) HK1.out;rw [HHD.out] at h;exact h))) hz1 hz2 (HBW.out.trans (HBz.out.mono (by have:=HLB.out;omega))) (by have:=HLB.out;omega) (by have:=HLB.out;omega)⟩)
    | some m =>
     have HST:=hid (show Calls Tryd.prog 52 #[.string ⟨x.1.toArray⟩,.int .i64 (st.k:Int),.bool false] w8 (fun e w'=>e = .returned (.int .i64 ((m:Int)))∧w'=w8) from by have h:=step_po x.1 st.k w8 (by have:=HK8.out;omega) HT8.out;rw [HSP.out] at h;exact h)
     have HM9:=hid (show m<9 from by have:=(step_spec HK8.out HSP.out).2.1;omega)
     have tm0:decide ((m:Int)<0)=false:=decide_eq_false (by omega)
     have tm0':¬ (m:Int)<0:=by omega
     obtain ⟨fn,hfn⟩:∃ n,kindF.getD m 0=n:=⟨_,rfl⟩
     have HFN:=hid hfn
     have hcf:=kind_enters m HM9.out
     rw [hfn] at hcf
     obtain ⟨kb,ko,kc,hg,hk⟩:=HK6.out
     have hkm:=(hk m HM9.out).2.2
     rw [hfn] at hkm
     have HGK:=hid (fun X (hX:Below b w6 X)=>show X.cell? ⟨0,0,none⟩=some (.slice (some ⟨kb,ko,none⟩) 9 kc)∧X.cell? ⟨kb,ko+m*3+2,none⟩=some (.func (.func fn) #[] #[]) from by
      have g1:=World.block_lt_of_cell? _ _ hg
      have g2:=World.block_lt_of_cell? _ _ hkm
      rw [HBS.out] at g1 g2
      exact ⟨(hX.cell g1).trans hg,(hX.cell g2).trans hkm⟩)
     clear hfn hg hk hkm
     by_cases hz:NL=0
     ·skip
      have tz:((NL:Int) == 0)=true:=by rw [hz];rfl
      by_cases hm0:m=0
      ·skip
       have tm3:((m:Int) != 0)=false:=by rw [hm0];rfl
       have tm3':((m:Int) == 0)=true:=by rw [hm0];rfl
       have hm1:m≤1:=by omega
       have tm1:decide (1<(m:Int))=false:=decide_eq_false (by omega)
       have tm1':¬ 1<(m:Int):=by omega
       have tm2:decide ((m:Int)≤1)=true:=decide_eq_true (by omega)
       have tm2':(m:Int)≤1:=by omega
       have HML:=hid hm1
       have HM0:=hid hm0
       clear hm1 hm0 hz
       go_upto_region 20 with (go_at_call 52;(with_reducible refine HST.out.mono ?_);rintro e w9 ⟨rfl,h9⟩;have h9:=h9.symm;subst h9)
       have y0:=HO8.out.c3.at 0 rfl;have y1:=HO8.out.c3.at 1 rfl;have y2:=HO8.out.c3.fr 0;have y3:=HO8.out.c3.fr 1
       go_upto_region 22 with fail
       clear y0 y1 y2 y3
       obtain ⟨wB,hwB⟩:∃ X,((w8.setCell ⟨b+1+1,0,none⟩ (.int .i64 (x.2.1:Int))).setCell ⟨b+1+1,1,none⟩ (.int .i64 (x.2.2:Int)))=X:=⟨_,rfl⟩
       have HWB:=hid (show RwL b vl vo vc vs (some ⟨lw,ow,none⟩) cq ws (rs1 st.p) wB from by rw [← hwB];exact (HW8.out.far _ (by omega) HO8.out.c3 (by decide) (by decide) (by decide)).far _ (by omega) (HO8.out.c3.set 0 _) (by decide) (by decide) (by decide))
       have HOB:=hid (show OrdB b (b+1+1+1) (b+1) (b+1+1) st.ord (wpos x) wB from by rw [← hwB];exact HO8.out.last _ _)
       have HBB:=hid (show Below b w6 wB from by rw [← hwB];exact (HB8.out.setCell (p:=⟨b+1+1,0,none⟩) (by dsimp only;omega) _).setCell (p:=⟨b+1+1,1,none⟩) (by dsimp only;omega) _)
       rw [hwB]
       clear hwB x0 x1 x2 d0 d2
       have HWd:=hid ((HWB.out.below (Below.refl _ _).drew:RwL b vl vo vc vs (some ⟨lw,ow,none⟩) cq ws (rs1 st.p) wB.drew));have HOd:=hid (HOB.out.but (But.of_below _ (Below.refl wB.heap.size wB).drew));have HBd:=hid HBB.out.drew
       have HKA:=hid (kind_any m HM9.out HWd.out (by have:=HVS.out.lv.2.2;show st.p.lv.length≤2000;omega) (by have:=HOD.out;show st.p.od.length≤2000;omega) (by have:=HVS.out.ch.1;show st.p.ch.length≤2000;omega) (by have:=HVS.out.si.1;show st.p.st.length≤2000;omega))
       rw [HFN.out] at HKA
       have hS:(fun W:World=>W.cell? ⟨0,0,none⟩=some (.slice (some ⟨kb,ko,none⟩) 9 kc)∧W.cell? ⟨kb,ko+m*3+2,none⟩=some (.func (.func fn) #[] #[])∧W.cell? ⟨b+1,0,none⟩=some (.pointer (some ⟨b,0,none⟩))) wB.drew:=⟨(HGK.out _ HBd.out).1,(HGK.out _ HBd.out).2,HOd.out.c2.at 0 rfl⟩
       have tm9:(m:Int)<9:=by have:=HM9.out;omega
       have tmn:m<9:=HM9.out
       have hFa:=fT
       refine rgN (fun W:World=>W.cell? ⟨0,0,none⟩=some (.slice (some ⟨kb,ko,none⟩) 9 kc)∧W.cell? ⟨kb,ko+m*3+2,none⟩=some (.func (.func fn) #[] #[])∧W.cell? ⟨b+1,0,none⟩=some (.pointer (some ⟨b,0,none⟩))) 7 (by kernel_rfl) ?_
       simp only [List.size_toArray,List.length_cons,List.length_nil,Nat.reduceAdd]
       iterate 6 (refine wpHJ_nx (v:=?_) 7 rfl rfl (by kernel_rfl) nE hS ?_ ?_;rotate_left;(focus refine Or.inl ⟨by rfl,?_⟩;rintro w' ⟨s0,s1,s2⟩;go_simp;try rfl);simp only [Act.put,actP,actQ])
       refine wpHJ_only 6 (by kernel_rfl) rfl (fun K hK=>?_)
       go_simp
       (with_reducible refine (callsIn_wide.2 HKA.out).mono ?_)
       rintro e w20 ⟨rfl,⟨vl',vo',vc',vs',hwz⟩,hbz,hkz⟩
       have HWz:=hid hwz;have HOz:=hid (HOd.out.keeps hkz);have HBz:=hid (HBd.out.trans hbz)
       have hSz:(fun W:World=>W.cell? ⟨0,0,none⟩=some (.slice (some ⟨kb,ko,none⟩) 9 kc)∧W.cell? ⟨kb,ko+m*3+2,none⟩=some (.func (.func fn) #[] #[])∧W.cell? ⟨b+1,0,none⟩=some (.pointer (some ⟨b,0,none⟩))) w20:=⟨(HGK.out _ HBz.out).1,(HGK.out _ HBz.out).2,HOz.out.c2.at 0 rfl⟩
       have HEN:=hid (end_po hwz.rr)
       clear hwz hbz hkz hS
       refine hK _ _ (.inr (.inr hSz)) ?_
       clear hK K
       refine wpHJ_done (by kernel_rfl) ?_ _
       simp only [onlyN,Exit.then]
       clear hFa
       have dz:=HOz.out.c2.at 0 rfl
       clear hSz tm9 tmn
       go_upto_region 24 with (go_at_call 53;(with_reducible refine HEN.out.mono ?_);rintro e wy ⟨rfl,hry,hby⟩;have HWy:=hid (HWz.out.on hry (endR_p _ _) hby);have HOy:=hid (HOz.out.but hby);have HBy:=hid (HBz.out.trans (hby.below (Nat.le_of_lt HWz.out.rr.box.lt) (fun k e=>Nat.le_of_eq e.symm)));clear hry hby dz)
       obtain ⟨r,hr⟩:∃ r,endR ws (readR m ws (rs1 st.p))=r:=⟨_,rfl⟩
       rw [hr] at HWy
       have HR:=hid hr
       clear hr
       have v2:=HOy.out.c2.at 0 rfl
       have v13:=HWy.out.rr.box.at 13 rfl
       by_cases he:r.e=0
       ·have te:(r.e != 0)=false:=by rw [he];rfl
        have te':(r.e == 0)=true:=by rw [he];rfl
        have HEE:=hid he
        clear he
        have HLI:=hid (show lineQ st (out[j]'HJL.out) = .ok ⟨r.p,m,wpos x,st.ord⟩ from by rw [HWS.out,lineQ_s0 (k:=m) (by rw [HHD.out];exact (kindQ_zero (by rw [HSP.out,HM0.out])).trans (by rw [HM0.out])) (by have:=HML.out;omega)];exact (bodyQ_good (st:=st) HR.out HEE.out).trans (by rw [if_pos HML.out,HHD.out]))
        have hlt:=HLT.out
        go_wp2_with fail
        go_roundw
        case rel=>exact ⟨j+1,⟨r.p,m,wpos x,st.ord⟩,Z+wz (out[j]'HJL.out),vl',vo',vc',vs',_,r.ix,hlt,rfl,by rw [wrap_next hlt HLE.out],pq_next HL.out HJL.out HLI.out,line_vs HVS.out HLI.out,line_od HK8.out HOD.out HLI.out,PInv.back HWy.out HEE.out (by rw [← HR.out];exact ((zp1 _).read _).endR) HOy.out HBy.out,.inr ⟨_,_,ws,rfl,HROW.out,HWy.out.rr.le,HWy.out.rr.ok⟩⟩
        case measure=>(have h2:=HLE.out;rw [wrap_next hlt HLE.out];show LO - ((j+1:Nat):Int).toNat<LO - ((j:Nat):Int).toNat;omega)
       ·have te:(r.e != 0)=true:=by rw [bne_iff_ne];exact he
        have te':(r.e == 0)=false:=by rw [beq_eq_false_iff_ne];exact he
        have HEE:=hid he
        clear he
        go_wp2_with fail
        refine wp_goto ?_
        have hz1:=H16.out.keep (HBy.out.block _ (by have:=HLB.out;omega));have hz2:=H26.out.keep (HBy.out.block _ (by have:=HLB.out;omega))
        exact (show 0=0∧JG s w _ _ from ⟨rfl,JG.mk (b+1) b (r.pos,r.e) _ rfl HOy.out.c2 HWy.out.rr.box rfl rfl rfl (pq_line HPQ.out HL.out HJL.out (by rw [HWS.out];exact (lineQ_s0 (k:=m) (by rw [HHD.out];exact (kindQ_zero (by rw [HSP.out,HM0.out])).trans (by rw [HM0.out])) (by have:=HML.out;omega)).trans (bodyQ_bad HR.out HEE.out))) hz1 hz2 (HBW.out.trans (HBy.out.mono (by have:=HLB.out;omega))) (by have:=HLB.out;omega) (by have:=HLB.out;omega)⟩)
      ·skip
       have tm3:((m:Int) != 0)=true:=by rw [bne_iff_ne];omega
       have tm3':((m:Int) == 0)=false:=by rw [beq_eq_false_iff_ne];omega
       have hk0:st.k=0:=by
        refine Classical.byContradiction fun h=>(HVS.out.ne (by omega)) ?_
        have h2:=HE.out
        rw [hz,decide_eq_true rfl] at h2
        exact List.isEmpty_iff.1 h2
       have hk1:st.k≤1:=by omega
       have tk:decide ((st.k:Int)≤1)=true:=decide_eq_true (by omega)
       have tk':(st.k:Int)≤1:=by omega
       have HEM:=hid (show st.p.lv.isEmpty=true from by rw [HE.out,hz];rfl)
       have HCE:=hid (show (st.ord || (rs1 st.p).p.lv.isEmpty)=true from by rw [show (rs1 st.p).p.lv.isEmpty=true from HEM.out];simp)
       have HK1:=hid hk1
       obtain ⟨m',hm'⟩:∃ m',m=m'+1:=⟨m - 1,by omega⟩
       have HM':=hid hm'
       clear hk1 hk0 hz hm0 hm'
       have HOR:=hid (order_e HW8.out HO8.out (by have:=HVS.out.lv.2.2;show st.p.lv.length≤2000;omega) (by have:=HOD.out;show st.p.od.length≤2000;omega) HR8.out HCE.out)
       go_upto_region 18 with (first | (go_at_call 52;(with_reducible refine HST.out.mono ?_);rintro e w9 ⟨rfl,h9⟩;have h9:=h9.symm;subst h9) | (go_at_call 50;(with_reducible refine HOR.out.mono ?_);rintro e w9 ⟨rfl,h9⟩;have h9:=h9.symm;subst h9))
       have HWd:=hid ((HW8.out.below (Below.refl _ _).drew:RwL b vl vo vc vs (some ⟨lw,ow,none⟩) cq ws (rs1 st.p) w8.drew));have HOd:=hid (HO8.out.but (But.of_below _ (Below.refl w8.heap.size w8).drew));have HBd:=hid HB8.out.drew
       have HFA:=hid (show Calls Tryd.prog 51 #[.pointer (some ⟨b,0,none⟩),.agg #[.int .i64 (x.2.1:Int),.int .i64 (x.2.2:Int)],.int .i64 4] w8.drew (RrP b vl vo vc vs (some ⟨lw,ow,none⟩) cq ws (.tuple #[]) (failR (rs1 st.p) (wpos x) 4) w8.drew) from fail_po (wpos x) 4 HWd.out.rr)
       have hS:(fun W:World=>W.cell? ⟨b+1,0,none⟩=some (.pointer (some ⟨b,0,none⟩))∧W.cell? ⟨lw,ow+1,none⟩=some (.int .i64 (x.2.1:Int))∧W.cell? ⟨lw,ow+2,none⟩=some (.int .i64 (x.2.2:Int))) w8.drew:=⟨HOd.out.c2.at 0 rfl,(HWd.out.w0 HHD.out).2.1,(HWd.out.w0 HHD.out).2.2⟩
       have hFa:=fT
       refine rgN (fun W:World=>W.cell? ⟨b+1,0,none⟩=some (.pointer (some ⟨b,0,none⟩))∧W.cell? ⟨lw,ow+1,none⟩=some (.int .i64 (x.2.1:Int))∧W.cell? ⟨lw,ow+2,none⟩=some (.int .i64 (x.2.2:Int))) 6 (by kernel_rfl) ?_
       simp only [List.size_toArray,List.length_cons,List.length_nil,Nat.reduceAdd]
       iterate 5 (refine wpHJ_nx (v:=?_) 6 rfl rfl (by kernel_rfl) nE hS ?_ ?_;rotate_left;(focus refine Or.inl ⟨by rfl,?_⟩;rintro w' ⟨s0,s1,s2⟩;go_simp;try rfl);simp only [Act.put,actP,actQ])
       refine wpHJ_only 5 (by kernel_rfl) rfl (fun K hK=>?_)
       go_simp
       (with_reducible refine (callsIn_wide.2 HFA.out).mono ?_)
       rintro e wz ⟨rfl,hrz,hbz⟩
       have HWz:=hid (HWd.out.on hrz (failR_p _ _ _) hbz);have HOz:=hid (HOd.out.but hbz);have HBz:=hid (HBd.out.trans (hbz.below (Nat.le_of_lt HWd.out.rr.box.lt) (fun k e=>Nat.le_of_eq e.symm)))
       rw [fail1] at HWz
       have hSz:(fun W:World=>W.cell? ⟨b+1,0,none⟩=some (.pointer (some ⟨b,0,none⟩))∧W.cell? ⟨lw,ow+1,none⟩=some (.int .i64 (x.2.1:Int))∧W.cell? ⟨lw,ow+2,none⟩=some (.int .i64 (x.2.2:Int))) wz:=⟨HOz.out.c2.at 0 rfl,(HWz.out.w0 HHD.out).2.1,(HWz.out.w0 HHD.out).2.2⟩
       clear hrz hbz hS
       refine hK _ _ (.inr (.inr hSz)) ?_
       clear hK K
       refine wpHJ_done (by kernel_rfl) ?_ _
       simp only [onlyN,Exit.then]
       clear hFa
       clear hSz
       go_wp2_with fail
       refine wp_goto ?_
       have hz1:=H16.out.keep (HBz.out.block _ (by have:=HLB.out;omega));have hz2:=H26.out.keep (HBz.out.block _ (by have:=HLB.out;omega))
       exact (show 0=0∧JG s w _ _ from ⟨rfl,JG.mk (b+1) b (wpos x,4) _ rfl HOz.out.c2 HWz.out.rr.box rfl rfl rfl (pq_line HPQ.out HL.out HJL.out (by rw [HWS.out];exact (by have h:=lineQ_n1 (kindQ_low (by rw [HHD.out,HSP.out,HM'.out]) HEM.out) HK1.out (orderQ_e HEM.out);rw [HHD.out] at h;exact h))) hz1 hz2 (HBW.out.trans (HBz.out.mono (by have:=HLB.out;omega))) (by have:=HLB.out;omega) (by have:=HLB.out;omega)⟩)
     have tz:((NL:Int) == 0)=false:=by rw [beq_eq_false_iff_ne];omega
     have HEM:=hid (show st.p.lv.isEmpty=false from by rw [HE.out,decide_eq_false hz])
     by_cases hm1:m≤1
     ·skip
      have tm1:decide (1<(m:Int))=false:=decide_eq_false (by omega)
      have tm1':¬ 1<(m:Int):=by omega
      have tm2:decide ((m:Int)≤1)=true:=decide_eq_true (by omega)
      have tm2':(m:Int)≤1:=by omega
      have HML:=hid hm1
      clear hm1 hz
      go_upto_region 20 with (go_at_call 52;(with_reducible refine HST.out.mono ?_);rintro e w9 ⟨rfl,h9⟩;have h9:=h9.symm;subst h9)
      have y0:=HO8.out.c3.at 0 rfl;have y1:=HO8.out.c3.at 1 rfl;have y2:=HO8.out.c3.fr 0;have y3:=HO8.out.c3.fr 1
      go_upto_region 22 with fail
      clear y0 y1 y2 y3
      obtain ⟨wB,hwB⟩:∃ X,((w8.setCell ⟨b+1+1,0,none⟩ (.int .i64 (x.2.1:Int))).setCell ⟨b+1+1,1,none⟩ (.int .i64 (x.2.2:Int)))=X:=⟨_,rfl⟩
      have HWB:=hid (show RwL b vl vo vc vs (some ⟨lw,ow,none⟩) cq ws (rs1 st.p) wB from by rw [← hwB];exact (HW8.out.far _ (by omega) HO8.out.c3 (by decide) (by decide) (by decide)).far _ (by omega) (HO8.out.c3.set 0 _) (by decide) (by decide) (by decide))
      have HOB:=hid (show OrdB b (b+1+1+1) (b+1) (b+1+1) st.ord (wpos x) wB from by rw [← hwB];exact HO8.out.last _ _)
      have HBB:=hid (show Below b w6 wB from by rw [← hwB];exact (HB8.out.setCell (p:=⟨b+1+1,0,none⟩) (by dsimp only;omega) _).setCell (p:=⟨b+1+1,1,none⟩) (by dsimp only;omega) _)
      rw [hwB]
      clear hwB x0 x1 x2 d0 d2
      have HWd:=hid ((HWB.out.below (Below.refl _ _).drew:RwL b vl vo vc vs (some ⟨lw,ow,none⟩) cq ws (rs1 st.p) wB.drew));have HOd:=hid (HOB.out.but (But.of_below _ (Below.refl wB.heap.size wB).drew));have HBd:=hid HBB.out.drew
      have HKA:=hid (kind_any m HM9.out HWd.out (by have:=HVS.out.lv.2.2;show st.p.lv.length≤2000;omega) (by have:=HOD.out;show st.p.od.length≤2000;omega) (by have:=HVS.out.ch.1;show st.p.ch.length≤2000;omega) (by have:=HVS.out.si.1;show st.p.st.length≤2000;omega))
      rw [HFN.out] at HKA
      have hS:(fun W:World=>W.cell? ⟨0,0,none⟩=some (.slice (some ⟨kb,ko,none⟩) 9 kc)∧W.cell? ⟨kb,ko+m*3+2,none⟩=some (.func (.func fn) #[] #[])∧W.cell? ⟨b+1,0,none⟩=some (.pointer (some ⟨b,0,none⟩))) wB.drew:=⟨(HGK.out _ HBd.out).1,(HGK.out _ HBd.out).2,HOd.out.c2.at 0 rfl⟩
      have tm9:(m:Int)<9:=by have:=HM9.out;omega
      have tmn:m<9:=HM9.out
      have hFa:=fT
      refine rgN (fun W:World=>W.cell? ⟨0,0,none⟩=some (.slice (some ⟨kb,ko,none⟩) 9 kc)∧W.cell? ⟨kb,ko+m*3+2,none⟩=some (.func (.func fn) #[] #[])∧W.cell? ⟨b+1,0,none⟩=some (.pointer (some ⟨b,0,none⟩))) 7 (by kernel_rfl) ?_
      simp only [List.size_toArray,List.length_cons,List.length_nil,Nat.reduceAdd]
      iterate 6 (refine wpHJ_nx (v:=?_) 7 rfl rfl (by kernel_rfl) nE hS ?_ ?_;rotate_left;(focus refine Or.inl ⟨by rfl,?_⟩;rintro w' ⟨s0,s1,s2⟩;go_simp;try rfl);simp only [Act.put,actP,actQ])
      refine wpHJ_only 6 (by kernel_rfl) rfl (fun K hK=>?_)
      go_simp
      (with_reducible refine (callsIn_wide.2 HKA.out).mono ?_)
      rintro e w20 ⟨rfl,⟨vl',vo',vc',vs',hwz⟩,hbz,hkz⟩
      have HWz:=hid hwz;have HOz:=hid (HOd.out.keeps hkz);have HBz:=hid (HBd.out.trans hbz)
      have hSz:(fun W:World=>W.cell? ⟨0,0,none⟩=some (.slice (some ⟨kb,ko,none⟩) 9 kc)∧W.cell? ⟨kb,ko+m*3+2,none⟩=some (.func (.func fn) #[] #[])∧W.cell? ⟨b+1,0,none⟩=some (.pointer (some ⟨b,0,none⟩))) w20:=⟨(HGK.out _ HBz.out).1,(HGK.out _ HBz.out).2,HOz.out.c2.at 0 rfl⟩
      have HEN:=hid (end_po hwz.rr)
      clear hwz hbz hkz hS
      refine hK _ _ (.inr (.inr hSz)) ?_
      clear hK K
      refine wpHJ_done (by kernel_rfl) ?_ _
      simp only [onlyN,Exit.then]
      clear hFa
      have dz:=HOz.out.c2.at 0 rfl
      clear hSz tm9 tmn
      go_upto_region 24 with (go_at_call 53;(with_reducible refine HEN.out.mono ?_);rintro e wy ⟨rfl,hry,hby⟩;have HWy:=hid (HWz.out.on hry (endR_p _ _) hby);have HOy:=hid (HOz.out.but hby);have HBy:=hid (HBz.out.trans (hby.below (Nat.le_of_lt HWz.out.rr.box.lt) (fun k e=>Nat.le_of_eq e.symm)));clear hry hby dz)
      obtain ⟨r,hr⟩:∃ r,endR ws (readR m ws (rs1 st.p))=r:=⟨_,rfl⟩
      rw [hr] at HWy
      have HR:=hid hr
      clear hr
      have v2:=HOy.out.c2.at 0 rfl
      have v13:=HWy.out.rr.box.at 13 rfl
      by_cases he:r.e=0
      ·have te:(r.e != 0)=false:=by rw [he];rfl
       have te':(r.e == 0)=true:=by rw [he];rfl
       have HEE:=hid he
       clear he
       have HLI:=hid (show lineQ st (out[j]'HJL.out) = .ok ⟨r.p,m,wpos x,st.ord⟩ from by rw [HWS.out,lineQ_s0 (by rw [HHD.out];exact kindQ_some HSP.out HEM.out) (by have:=HML.out;omega)];exact (bodyQ_good (st:=st) HR.out HEE.out).trans (by rw [if_pos HML.out,HHD.out]))
       have hlt:=HLT.out
       go_wp2_with fail
       go_roundw
       case rel=>exact ⟨j+1,⟨r.p,m,wpos x,st.ord⟩,Z+wz (out[j]'HJL.out),vl',vo',vc',vs',_,r.ix,hlt,rfl,by rw [wrap_next hlt HLE.out],pq_next HL.out HJL.out HLI.out,line_vs HVS.out HLI.out,line_od HK8.out HOD.out HLI.out,PInv.back HWy.out HEE.out (by rw [← HR.out];exact ((zp1 _).read _).endR) HOy.out HBy.out,.inr ⟨_,_,ws,rfl,HROW.out,HWy.out.rr.le,HWy.out.rr.ok⟩⟩
       case measure=>(have h2:=HLE.out;rw [wrap_next hlt HLE.out];show LO - ((j+1:Nat):Int).toNat<LO - ((j:Nat):Int).toNat;omega)
      ·have te:(r.e != 0)=true:=by rw [bne_iff_ne];exact he
       have te':(r.e == 0)=false:=by rw [beq_eq_false_iff_ne];exact he
       have HEE:=hid he
       clear he
       go_wp2_with fail
       refine wp_goto ?_
       have hz1:=H16.out.keep (HBy.out.block _ (by have:=HLB.out;omega));have hz2:=H26.out.keep (HBy.out.block _ (by have:=HLB.out;omega))
       exact (show 0=0∧JG s w _ _ from ⟨rfl,JG.mk (b+1) b (r.pos,r.e) _ rfl HOy.out.c2 HWy.out.rr.box rfl rfl rfl (pq_line HPQ.out HL.out HJL.out (by rw [HWS.out];exact (lineQ_s0 (by rw [HHD.out];exact kindQ_some HSP.out HEM.out) (by have:=HML.out;omega)).trans (bodyQ_bad HR.out HEE.out))) hz1 hz2 (HBW.out.trans (HBy.out.mono (by have:=HLB.out;omega))) (by have:=HLB.out;omega) (by have:=HLB.out;omega)⟩)
     ·skip
      have tm1:decide (1<(m:Int))=true:=decide_eq_true (by omega)
      have tm1':1<(m:Int):=by omega
      have tm2:decide ((m:Int)≤1)=false:=decide_eq_false (by omega)
      have tm2':¬ (m:Int)≤1:=by omega
      have HML:=hid hm1
      have HM1:=hid (show 1<m from by omega)
      by_cases hk1:st.k≤1
      ·skip
       have tk:decide ((st.k:Int)≤1)=true:=decide_eq_true (by omega)
       have tk':(st.k:Int)≤1:=by omega
       have HCE:=hid (show (st.ord || (rs1 st.p).p.lv.isEmpty)=false from by rw [show (rs1 st.p).p.lv.isEmpty=false from HEM.out,HVS.out.or hk1];rfl)
       have HK1:=hid hk1
       clear hk1 hz hm1
       by_cases hla:latE st.p.lv.length st.p.od=0
       ·have HLA:=hid (show latE (rs1 st.p).p.lv.length (rs1 st.p).p.od=0 from hla)
        clear hla
        have HOR:=hid (order_y HW8.out HO8.out (by have:=HVS.out.lv.2.2;show st.p.lv.length≤2000;omega) (by have:=HOD.out;show st.p.od.length≤2000;omega) HR8.out HCE.out HLA.out)
        go_upto_region 20 with (first | (go_at_call 52;(with_reducible refine HST.out.mono ?_);rintro e w9 ⟨rfl,h9⟩;have h9:=h9.symm;subst h9) | (go_at_call 50;(with_reducible refine HOR.out.mono ?_);rintro e w9 ⟨rfl,hw9,ho9,hb9⟩;have HW9:=hid hw9;have HO9:=hid ho9;have HB9:=hid (HB8.out.trans hb9);clear hw9 ho9 hb9))
        go_upto_region 22 with fail
        have HWd:=hid ((HW9.out.below (Below.refl _ _).drew:RwL b vl vo vc vs (some ⟨lw,ow,none⟩) cq ws (rs1 st.p) w9.drew));have HOd:=hid (HO9.out.but (But.of_below _ (Below.refl w9.heap.size w9).drew));have HBd:=hid HB9.out.drew
        have HKA:=hid (kind_any m HM9.out HWd.out (by have:=HVS.out.lv.2.2;show st.p.lv.length≤2000;omega) (by have:=HOD.out;show st.p.od.length≤2000;omega) (by have:=HVS.out.ch.1;show st.p.ch.length≤2000;omega) (by have:=HVS.out.si.1;show st.p.st.length≤2000;omega))
        rw [HFN.out] at HKA
        have hS:(fun W:World=>W.cell? ⟨0,0,none⟩=some (.slice (some ⟨kb,ko,none⟩) 9 kc)∧W.cell? ⟨kb,ko+m*3+2,none⟩=some (.func (.func fn) #[] #[])∧W.cell? ⟨b+1,0,none⟩=some (.pointer (some ⟨b,0,none⟩))) w9.drew:=⟨(HGK.out _ HBd.out).1,(HGK.out _ HBd.out).2,HOd.out.c2.at 0 rfl⟩
        have tm9:(m:Int)<9:=by have:=HM9.out;omega
        have tmn:m<9:=HM9.out
        have hFa:=fT
        refine rgN (fun W:World=>W.cell? ⟨0,0,none⟩=some (.slice (some ⟨kb,ko,none⟩) 9 kc)∧W.cell? ⟨kb,ko+m*3+2,none⟩=some (.func (.func fn) #[] #[])∧W.cell? ⟨b+1,0,none⟩=some (.pointer (some ⟨b,0,none⟩))) 7 (by kernel_rfl) ?_
        simp only [List.size_toArray,List.length_cons,List.length_nil,Nat.reduceAdd]
        iterate 6 (refine wpHJ_nx (v:=?_) 7 rfl rfl (by kernel_rfl) nE hS ?_ ?_;rotate_left;(focus refine Or.inl ⟨by rfl,?_⟩;rintro w' ⟨s0,s1,s2⟩;go_simp;try rfl);simp only [Act.put,actP,actQ])
        refine wpHJ_only 6 (by kernel_rfl) rfl (fun K hK=>?_)
        go_simp
        (with_reducible refine (callsIn_wide.2 HKA.out).mono ?_)
        rintro e w20 ⟨rfl,⟨vl',vo',vc',vs',hwz⟩,hbz,hkz⟩
        have HWz:=hid hwz;have HOz:=hid (HOd.out.keeps hkz);have HBz:=hid (HBd.out.trans hbz)
        have hSz:(fun W:World=>W.cell? ⟨0,0,none⟩=some (.slice (some ⟨kb,ko,none⟩) 9 kc)∧W.cell? ⟨kb,ko+m*3+2,none⟩=some (.func (.func fn) #[] #[])∧W.cell? ⟨b+1,0,none⟩=some (.pointer (some ⟨b,0,none⟩))) w20:=⟨(HGK.out _ HBz.out).1,(HGK.out _ HBz.out).2,HOz.out.c2.at 0 rfl⟩
        have HEN:=hid (end_po hwz.rr)
        clear hwz hbz hkz hS
        refine hK _ _ (.inr (.inr hSz)) ?_
        clear hK K
        refine wpHJ_done (by kernel_rfl) ?_ _
        simp only [onlyN,Exit.then]
        clear hFa
        have dz:=HOz.out.c2.at 0 rfl
        clear hSz tm9 tmn
        go_upto_region 24 with (go_at_call 53;(with_reducible refine HEN.out.mono ?_);rintro e wy ⟨rfl,hry,hby⟩;have HWy:=hid (HWz.out.on hry (endR_p _ _) hby);have HOy:=hid (HOz.out.but hby);have HBy:=hid (HBz.out.trans (hby.below (Nat.le_of_lt HWz.out.rr.box.lt) (fun k e=>Nat.le_of_eq e.symm)));clear hry hby dz)
        obtain ⟨r,hr⟩:∃ r,endR ws (readR m ws (rs1 st.p))=r:=⟨_,rfl⟩
        rw [hr] at HWy
        have HR:=hid hr
        clear hr
        have v2:=HOy.out.c2.at 0 rfl
        have v13:=HWy.out.rr.box.at 13 rfl
        by_cases he:r.e=0
        ·have te:(r.e != 0)=false:=by rw [he];rfl
         have te':(r.e == 0)=true:=by rw [he];rfl
         have HEE:=hid he
         clear he
         have HLI:=hid (show lineQ st (out[j]'HJL.out) = .ok ⟨r.p,m,st.last,true⟩ from by rw [HWS.out,lineQ_s1 (by rw [HHD.out];exact kindQ_some HSP.out HEM.out) HM1.out HK1.out (orderQ_yes HCE.out HLA.out)];exact (bodyQ_good (st:=⟨st.p,st.k,st.last,true⟩) HR.out HEE.out).trans (by rw [if_neg HML.out]))
         have hlt:=HLT.out
         go_wp2_with fail
         go_roundw
         case rel=>exact ⟨j+1,⟨r.p,m,st.last,true⟩,Z+wz (out[j]'HJL.out),vl',vo',vc',vs',_,r.ix,hlt,rfl,by rw [wrap_next hlt HLE.out],pq_next HL.out HJL.out HLI.out,line_vs HVS.out HLI.out,line_od HK8.out HOD.out HLI.out,PInv.back HWy.out HEE.out (by rw [← HR.out];exact ((zp1 _).read _).endR) HOy.out HBy.out,.inr ⟨_,_,ws,rfl,HROW.out,HWy.out.rr.le,HWy.out.rr.ok⟩⟩
         case measure=>(have h2:=HLE.out;rw [wrap_next hlt HLE.out];show LO - ((j+1:Nat):Int).toNat<LO - ((j:Nat):Int).toNat;omega)
        ·have te:(r.e != 0)=true:=by rw [bne_iff_ne];exact he
         have te':(r.e == 0)=false:=by rw [beq_eq_false_iff_ne];exact he
         have HEE:=hid he
         clear he
         go_wp2_with fail
         refine wp_goto ?_
         have hz1:=H16.out.keep (HBy.out.block _ (by have:=HLB.out;omega));have hz2:=H26.out.keep (HBy.out.block _ (by have:=HLB.out;omega))
         exact (show 0=0∧JG s w _ _ from ⟨rfl,JG.mk (b+1) b (r.pos,r.e) _ rfl HOy.out.c2 HWy.out.rr.box rfl rfl rfl (pq_line HPQ.out HL.out HJL.out (by rw [HWS.out];exact (lineQ_s1 (by rw [HHD.out];exact kindQ_some HSP.out HEM.out) HM1.out HK1.out (orderQ_yes HCE.out HLA.out)).trans (bodyQ_bad HR.out HEE.out))) hz1 hz2 (HBW.out.trans (HBy.out.mono (by have:=HLB.out;omega))) (by have:=HLB.out;omega) (by have:=HLB.out;omega)⟩)
       ·have HLA:=hid (show latE (rs1 st.p).p.lv.length (rs1 st.p).p.od ≠ 0 from hla)
        clear hla
        have HOR:=hid (order_n HW8.out HO8.out (by have:=HVS.out.lv.2.2;show st.p.lv.length≤2000;omega) (by have:=HOD.out;show st.p.od.length≤2000;omega) HR8.out HCE.out HLA.out)
        go_wp2_with (first | (go_at_call 52;(with_reducible refine HST.out.mono ?_);rintro e w9 ⟨rfl,h9⟩;have h9:=h9.symm;subst h9) | (go_at_call 50;(with_reducible refine HOR.out.mono ?_);rintro e w9 ⟨rfl,hw9,ho9,hb9⟩;rw [fail1] at hw9;have HW9:=hid hw9;have HO9:=hid ho9;have HB9:=hid (HB8.out.trans hb9);clear hw9 ho9 hb9))
        refine wp_goto ?_
        have hz1:=H16.out.keep (HB9.out.block _ (by have:=HLB.out;omega));have hz2:=H26.out.keep (HB9.out.block _ (by have:=HLB.out;omega))
        exact (show 0=0∧JG s w _ _ from ⟨rfl,JG.mk (b+1) b (st.last,latE st.p.lv.length st.p.od) _ rfl HO9.out.c2 HW9.out.rr.box rfl rfl rfl (pq_line HPQ.out HL.out HJL.out (by rw [HWS.out];exact lineQ_oe (by rw [HHD.out,kindQ_some HSP.out HEM.out];exact decide_eq_true HM1.out) HK1.out (orderQ_no HCE.out HLA.out))) hz1 hz2 (HBW.out.trans (HB9.out.mono (by have:=HLB.out;omega))) (by have:=HLB.out;omega) (by have:=HLB.out;omega)⟩)
      ·skip
       have tk:decide ((st.k:Int)≤1)=false:=decide_eq_false (by omega)
       have tk':¬ (st.k:Int)≤1:=by omega
       have HK1:=hid hk1
       clear hk1 hz hm1
       go_upto_region 20 with (go_at_call 52;(with_reducible refine HST.out.mono ?_);rintro e w9 ⟨rfl,h9⟩;have h9:=h9.symm;subst h9)
       go_upto_region 22 with fail
       have HWd:=hid ((HW8.out.below (Below.refl _ _).drew:RwL b vl vo vc vs (some ⟨lw,ow,none⟩) cq ws (rs1 st.p) w8.drew));have HOd:=hid (HO8.out.but (But.of_below _ (Below.refl w8.heap.size w8).drew));have HBd:=hid HB8.out.drew
       have HKA:=hid (kind_any m HM9.out HWd.out (by have:=HVS.out.lv.2.2;show st.p.lv.length≤2000;omega) (by have:=HOD.out;show st.p.od.length≤2000;omega) (by have:=HVS.out.ch.1;show st.p.ch.length≤2000;omega) (by have:=HVS.out.si.1;show st.p.st.length≤2000;omega))
       rw [HFN.out] at HKA
       have hS:(fun W:World=>W.cell? ⟨0,0,none⟩=some (.slice (some ⟨kb,ko,none⟩) 9 kc)∧W.cell? ⟨kb,ko+m*3+2,none⟩=some (.func (.func fn) #[] #[])∧W.cell? ⟨b+1,0,none⟩=some (.pointer (some ⟨b,0,none⟩))) w8.drew:=⟨(HGK.out _ HBd.out).1,(HGK.out _ HBd.out).2,HOd.out.c2.at 0 rfl⟩
       have tm9:(m:Int)<9:=by have:=HM9.out;omega
       have tmn:m<9:=HM9.out
       have hFa:=fT
       refine rgN (fun W:World=>W.cell? ⟨0,0,none⟩=some (.slice (some ⟨kb,ko,none⟩) 9 kc)∧W.cell? ⟨kb,ko+m*3+2,none⟩=some (.func (.func fn) #[] #[])∧W.cell? ⟨b+1,0,none⟩=some (.pointer (some ⟨b,0,none⟩))) 7 (by kernel_rfl) ?_
       simp only [List.size_toArray,List.length_cons,List.length_nil,Nat.reduceAdd]
       iterate 6 (refine wpHJ_nx (v:=?_) 7 rfl rfl (by kernel_rfl) nE hS ?_ ?_;rotate_left;(focus refine Or.inl ⟨by rfl,?_⟩;rintro w' ⟨s0,s1,s2⟩;go_simp;try rfl);simp only [Act.put,actP,actQ])
       refine wpHJ_only 6 (by kernel_rfl) rfl (fun K hK=>?_)
       go_simp
       (with_reducible refine (callsIn_wide.2 HKA.out).mono ?_)
       rintro e w20 ⟨rfl,⟨vl',vo',vc',vs',hwz⟩,hbz,hkz⟩
       have HWz:=hid hwz;have HOz:=hid (HOd.out.keeps hkz);have HBz:=hid (HBd.out.trans hbz)
       have hSz:(fun W:World=>W.cell? ⟨0,0,none⟩=some (.slice (some ⟨kb,ko,none⟩) 9 kc)∧W.cell? ⟨kb,ko+m*3+2,none⟩=some (.func (.func fn) #[] #[])∧W.cell? ⟨b+1,0,none⟩=some (.pointer (some ⟨b,0,none⟩))) w20:=⟨(HGK.out _ HBz.out).1,(HGK.out _ HBz.out).2,HOz.out.c2.at 0 rfl⟩
       have HEN:=hid (end_po hwz.rr)
       clear hwz hbz hkz hS
       refine hK _ _ (.inr (.inr hSz)) ?_
       clear hK K
       refine wpHJ_done (by kernel_rfl) ?_ _
       simp only [onlyN,Exit.then]
       clear hFa
       have dz:=HOz.out.c2.at 0 rfl
       clear hSz tm9 tmn
       go_upto_region 24 with (go_at_call 53;(with_reducible refine HEN.out.mono ?_);rintro e wy ⟨rfl,hry,hby⟩;have HWy:=hid (HWz.out.on hry (endR_p _ _) hby);have HOy:=hid (HOz.out.but hby);have HBy:=hid (HBz.out.trans (hby.below (Nat.le_of_lt HWz.out.rr.box.lt) (fun k e=>Nat.le_of_eq e.symm)));clear hry hby dz)
       obtain ⟨r,hr⟩:∃ r,endR ws (readR m ws (rs1 st.p))=r:=⟨_,rfl⟩
       rw [hr] at HWy
       have HR:=hid hr
       clear hr
       have v2:=HOy.out.c2.at 0 rfl
       have v13:=HWy.out.rr.box.at 13 rfl
       by_cases he:r.e=0
       ·have te:(r.e != 0)=false:=by rw [he];rfl
        have te':(r.e == 0)=true:=by rw [he];rfl
        have HEE:=hid he
        clear he
        have HLI:=hid (show lineQ st (out[j]'HJL.out) = .ok ⟨r.p,m,st.last,st.ord⟩ from by rw [HWS.out,lineQ_s0 (by rw [HHD.out];exact kindQ_some HSP.out HEM.out) (fun h=>HK1.out h.2)];exact (bodyQ_good (st:=st) HR.out HEE.out).trans (by rw [if_neg HML.out]))
        have hlt:=HLT.out
        go_wp2_with fail
        go_roundw
        case rel=>exact ⟨j+1,⟨r.p,m,st.last,st.ord⟩,Z+wz (out[j]'HJL.out),vl',vo',vc',vs',_,r.ix,hlt,rfl,by rw [wrap_next hlt HLE.out],pq_next HL.out HJL.out HLI.out,line_vs HVS.out HLI.out,line_od HK8.out HOD.out HLI.out,PInv.back HWy.out HEE.out (by rw [← HR.out];exact ((zp1 _).read _).endR) HOy.out HBy.out,.inr ⟨_,_,ws,rfl,HROW.out,HWy.out.rr.le,HWy.out.rr.ok⟩⟩
        case measure=>(have h2:=HLE.out;rw [wrap_next hlt HLE.out];show LO - ((j+1:Nat):Int).toNat<LO - ((j:Nat):Int).toNat;omega)
       ·have te:(r.e != 0)=true:=by rw [bne_iff_ne];exact he
        have te':(r.e == 0)=false:=by rw [beq_eq_false_iff_ne];exact he
        have HEE:=hid he
        clear he
        go_wp2_with fail
        refine wp_goto ?_
        have hz1:=H16.out.keep (HBy.out.block _ (by have:=HLB.out;omega));have hz2:=H26.out.keep (HBy.out.block _ (by have:=HLB.out;omega))
        exact (show 0=0∧JG s w _ _ from ⟨rfl,JG.mk (b+1) b (r.pos,r.e) _ rfl HOy.out.c2 HWy.out.rr.box rfl rfl rfl (pq_line HPQ.out HL.out HJL.out (by rw [HWS.out];exact (lineQ_s0 (by rw [HHD.out];exact kindQ_some HSP.out HEM.out) (fun h=>HK1.out h.2)).trans (bodyQ_bad HR.out HEE.out))) hz1 hz2 (HBW.out.trans (HBy.out.mono (by have:=HLB.out;omega))) (by have:=HLB.out;omega) (by have:=HLB.out;omega)⟩)
   ·skip
    have hjj:j=LO:=by omega
    have HEQ:=hid (pq_end HPQ.out hl (by rw [HLO.out];omega))
    have HPI9:=hid hpi;have HPO:=hid hpi.ord;have HPB:=hid hpi.bel;have HWO:=hid hwo;have HVS:=hid hvs;have HOD:=hid hod
    obtain ⟨kb,ko,kc,hg,hk⟩:=HK6.out
    have HGK:=hid (fun X (hX:Below b w6 X)=>show X.cell? ⟨0,0,none⟩=some (.slice (some ⟨kb,ko,none⟩) 9 kc) from by
     have g1:=World.block_lt_of_cell? _ _ hg
     rw [HBS.out] at g1
     exact (hX.cell g1).trans hg)
    clear hg hk hlt hl hvs hod hpi hwo hj
    have t1:decide ((j:Int)<(LO:Int))=false:=decide_eq_false (by omega)
    have t1':¬ (j:Int)<(LO:Int):=by omega
    clear hjj
    by_cases hk1:st.k≤1
    ·have HK8:=hid (show st.k<8 from by omega)
     have tk:decide ((st.k:Int)≤1)=true:=decide_eq_true (by omega)
     have tk':(st.k:Int)≤1:=by omega
     have HK1:=hid hk1
     by_cases hem:st.p.lv=[]
     ·have HEM:=hid (show st.p.lv.isEmpty=true from by rw [hem];rfl)
      obtain ⟨pl,cl,hvl⟩:=HPI9.out.gl.slc
      have c0e:wr.cell? ⟨b,0,none⟩=some (.slice pl 0 cl):=by rw [(HPI9.out.box.at 0 rfl:wr.cell? ⟨b,0,none⟩=some vl),hvl,hem];rfl
      clear hem hvl hk1
      have HOR:=hid (order_em HPO.out c0e)
      go_upto_region 27 with (go_at_call 50;(with_reducible refine HOR.out.mono ?_);rintro e w9 ⟨rfl,h9⟩;have h9:=h9.symm;subst h9)
      have HX9:=hid HPI9.out.box
      have g0:=HGK.out wr HPB.out
      have tk8:decide ((st.k:Int)<8)=true:=decide_eq_true (by have:=HK8.out;omega)
      have tk8':(st.k:Int)<8:=by have:=HK8.out;omega
      have o2c:=HPO.out.c2.at 0 rfl
      have h8:=H86.out.keep (HPB.out.block _ (by have:=HS6.out;omega))
      have o80:=h8.at 0 rfl;have o81:=h8.at 1 rfl
      have HFQ:=hid (show Calls Tryd.prog 51 #[.pointer (some ⟨b,0,none⟩),.agg #[.int .i64 (1+(cn:Int)),.int .i64 ((s.length:Int) - li)],.int .i64 4] wr _ from fail_q (1+(cn:Int),(s.length:Int) - li) 4 HX9.out)
      clear h8
      go_wp2_with (go_at_call 51;(with_reducible refine HFQ.out.mono ?_);rintro e wy ⟨rfl,hxy,hby⟩;have HXY:=hid hxy;have HOY:=hid (HPO.out.but hby);have HBY:=hid (HPB.out.trans (hby.below (Nat.le_of_lt HX9.out.lt) (fun k e=>Nat.le_of_eq e.symm)));clear hxy hby)
      refine wp_goto ?_
      have hz1:=H16.out.keep (HBY.out.block _ (by have:=HLB.out;omega));have hz2:=H26.out.keep (HBY.out.block _ (by have:=HLB.out;omega))
      exact (show 0=0∧JG s w _ _ from ⟨rfl,JG.mk (b+1) b ((1+(cn:Int),(s.length:Int) - li),4) _ rfl HOY.out.c2 HXY.out rfl rfl rfl (by rw [HEQ.out,HEO.out];exact endQ_o HK1.out (orderQ_e HEM.out) rfl) hz1 hz2 (HBW.out.trans (HBY.out.mono (by have:=HLB.out;omega))) (by have:=HLB.out;omega) (by have:=HLB.out;omega)⟩)
     ·skip
      obtain ⟨pw,cw,ws,rfl,hrow,hix,hwk⟩:=HWO.out.resolve_left hem
      have HRW:=hid (HPI9.out.rwl hrow hix hwk)
      have HEM:=hid (show st.p.lv.isEmpty=false from by cases h:st.p.lv with | nil=>exact absurd h hem | cons _ _=>rfl)
      have HCE:=hid (show (st.ord || (⟨st.p,ix,(0,0),0⟩:RS).p.lv.isEmpty)=false from by rw [show (⟨st.p,ix,(0,0),0⟩:RS).p.lv.isEmpty=false from HEM.out,HVS.out.or hk1];rfl)
      obtain ⟨pl,cl,hvl⟩:=HPI9.out.gl.slc
      clear hem hk1 hrow hix hwk hvl
      by_cases hla:latE st.p.lv.length st.p.od=0
      ·have HLA:=hid (show latE (⟨st.p,ix,(0,0),0⟩:RS).p.lv.length (⟨st.p,ix,(0,0),0⟩:RS).p.od=0 from hla)
       clear hla
       have HOR:=hid (order_y HRW.out HPO.out (by have:=HVS.out.lv.2.2;show st.p.lv.length≤2000;omega) (by have:=HOD.out;show st.p.od.length≤2000;omega) (HR6.out.keep (by rw [HBS.out];exact HPB.out)) HCE.out HLA.out)
       go_upto_region 27 with (go_at_call 50;(with_reducible refine HOR.out.mono ?_);rintro e w9 ⟨rfl,hw9,ho9,hb9⟩;have HW9:=hid hw9;have HO9:=hid ho9;have HB9:=hid (HPB.out.trans hb9);clear hw9 ho9 hb9)
       have HX9:=hid HW9.out.rr.box
       have g0:=HGK.out w9 HB9.out
       have tk8:decide ((st.k:Int)<8)=true:=decide_eq_true (by have:=HK8.out;omega)
       have tk8':(st.k:Int)<8:=by have:=HK8.out;omega
       have o2c:=HO9.out.c2.at 0 rfl
       have h8:=H86.out.keep (HB9.out.block _ (by have:=HS6.out;omega))
       have o80:=h8.at 0 rfl;have o81:=h8.at 1 rfl
       have HFQ:=hid (show Calls Tryd.prog 51 #[.pointer (some ⟨b,0,none⟩),.agg #[.int .i64 (1+(cn:Int)),.int .i64 ((s.length:Int) - li)],.int .i64 4] w9 _ from fail_q (1+(cn:Int),(s.length:Int) - li) 4 HX9.out)
       clear h8
       go_wp2_with (go_at_call 51;(with_reducible refine HFQ.out.mono ?_);rintro e wy ⟨rfl,hxy,hby⟩;have HXY:=hid hxy;have HOY:=hid (HO9.out.but hby);have HBY:=hid (HB9.out.trans (hby.below (Nat.le_of_lt HX9.out.lt) (fun k e=>Nat.le_of_eq e.symm)));clear hxy hby)
       refine wp_goto ?_
       have hz1:=H16.out.keep (HBY.out.block _ (by have:=HLB.out;omega));have hz2:=H26.out.keep (HBY.out.block _ (by have:=HLB.out;omega))
       exact (show 0=0∧JG s w _ _ from ⟨rfl,JG.mk (b+1) b ((1+(cn:Int),(s.length:Int) - li),4) _ rfl HOY.out.c2 HXY.out rfl rfl rfl (by rw [HEQ.out,HEO.out];exact endQ_o HK1.out (orderQ_yes HCE.out HLA.out) rfl) hz1 hz2 (HBW.out.trans (HBY.out.mono (by have:=HLB.out;omega))) (by have:=HLB.out;omega) (by have:=HLB.out;omega)⟩)
      ·have HLA:=hid (show latE (⟨st.p,ix,(0,0),0⟩:RS).p.lv.length (⟨st.p,ix,(0,0),0⟩:RS).p.od ≠ 0 from hla)
       clear hla
       have HOR:=hid (order_n HRW.out HPO.out (by have:=HVS.out.lv.2.2;show st.p.lv.length≤2000;omega) (by have:=HOD.out;show st.p.od.length≤2000;omega) (HR6.out.keep (by rw [HBS.out];exact HPB.out)) HCE.out HLA.out)
       go_wp2_with (go_at_call 50;(with_reducible refine HOR.out.mono ?_);rintro e w9 ⟨rfl,hw9,ho9,hb9⟩;rw [show failR (⟨st.p,ix,(0,0),0⟩:RS) st.last (latE (⟨st.p,ix,(0,0),0⟩:RS).p.lv.length (⟨st.p,ix,(0,0),0⟩:RS).p.od)=⟨st.p,ix,st.last,latE st.p.lv.length st.p.od⟩ from if_pos rfl] at hw9;have HW9:=hid hw9;have HO9:=hid ho9;have HB9:=hid (HPB.out.trans hb9);clear hw9 ho9 hb9)
       refine wp_goto ?_
       have hz1:=H16.out.keep (HB9.out.block _ (by have:=HLB.out;omega));have hz2:=H26.out.keep (HB9.out.block _ (by have:=HLB.out;omega))
       exact (show 0=0∧JG s w _ _ from ⟨rfl,JG.mk (b+1) b (st.last,latE st.p.lv.length st.p.od) _ rfl HO9.out.c2 HW9.out.rr.box rfl rfl rfl (by rw [HEQ.out];exact endQ_oe HK1.out (orderQ_no HCE.out HLA.out)) hz1 hz2 (HBW.out.trans (HB9.out.mono (by have:=HLB.out;omega))) (by have:=HLB.out;omega) (by have:=HLB.out;omega)⟩)
    by_cases hk8:st.k<8
    ·have HK8:=hid hk8;have HK1:=hid hk1
     have tk:decide ((st.k:Int)≤1)=false:=decide_eq_false (by omega)
     have tk':¬ (st.k:Int)≤1:=by omega
     clear hk1 hk8
     go_upto_region 27 with fail
     have HX9:=hid HPI9.out.box
     have g0:=HGK.out wr HPB.out
     have tk8:decide ((st.k:Int)<8)=true:=decide_eq_true (by have:=HK8.out;omega)
     have tk8':(st.k:Int)<8:=by have:=HK8.out;omega
     have o2c:=HPO.out.c2.at 0 rfl
     have h8:=H86.out.keep (HPB.out.block _ (by have:=HS6.out;omega))
     have o80:=h8.at 0 rfl;have o81:=h8.at 1 rfl
     have HFQ:=hid (show Calls Tryd.prog 51 #[.pointer (some ⟨b,0,none⟩),.agg #[.int .i64 (1+(cn:Int)),.int .i64 ((s.length:Int) - li)],.int .i64 4] wr _ from fail_q (1+(cn:Int),(s.length:Int) - li) 4 HX9.out)
     clear h8
     go_wp2_with (go_at_call 51;(with_reducible refine HFQ.out.mono ?_);rintro e wy ⟨rfl,hxy,hby⟩;have HXY:=hid hxy;have HOY:=hid (HPO.out.but hby);have HBY:=hid (HPB.out.trans (hby.below (Nat.le_of_lt HX9.out.lt) (fun k e=>Nat.le_of_eq e.symm)));clear hxy hby)
     refine wp_goto ?_
     have hz1:=H16.out.keep (HBY.out.block _ (by have:=HLB.out;omega));have hz2:=H26.out.keep (HBY.out.block _ (by have:=HLB.out;omega))
     exact (show 0=0∧JG s w _ _ from ⟨rfl,JG.mk (b+1) b ((1+(cn:Int),(s.length:Int) - li),4) _ rfl HOY.out.c2 HXY.out rfl rfl rfl (by rw [HEQ.out,HEO.out];exact endQ_k HK1.out HK8.out) hz1 hz2 (HBW.out.trans (HBY.out.mono (by have:=HLB.out;omega))) (by have:=HLB.out;omega) (by have:=HLB.out;omega)⟩)
    have HK8:=hid hk8
    have HK1:=hid hk1
    have tk:decide ((st.k:Int)≤1)=false:=decide_eq_false (by omega)
    have tk':¬ (st.k:Int)≤1:=by omega
    obtain ⟨pl,cl,rfl⟩:=HPI9.out.gl.slc
    obtain ⟨po,co,rfl⟩:=HPI9.out.go.slc
    obtain ⟨pc,cc,rfl⟩:=HPI9.out.gc.slc
    obtain ⟨ps,cs,rfl⟩:=HPI9.out.gs.slc
    have g0:=HGK.out wr HPB.out
    have tk8:decide ((st.k:Int)<8)=false:=decide_eq_false (by omega)
    have tk8':¬ (st.k:Int)<8:=by omega
    have o2c:=HPO.out.c2.at 0 rfl
    have h0:=H16.out.keep (HPB.out.block _ (by have:=HLB.out;omega));have h1:=H26.out.keep (HPB.out.block _ (by have:=HLB.out;omega))
    have q0:BxL 26 w.heap.size [.slice pl st.p.lv.length cl,.slice po st.p.od.length co,.slice pc st.p.ch.length cc,.slice ps st.p.st.length cs,.bool st.p.sens,.int .i64 st.p.steps,.int .i64 st.p.paths,.int .i64 st.p.nodes,.int .i64 st.p.conf] (((((((((wr.setCell ⟨w.heap.size,0,none⟩ (.slice pl st.p.lv.length cl)).setCell ⟨w.heap.size,1,none⟩ (.slice po st.p.od.length co)).setCell ⟨w.heap.size,2,none⟩ (.slice pc st.p.ch.length cc)).setCell ⟨w.heap.size,3,none⟩ (.slice ps st.p.st.length cs)).setCell ⟨w.heap.size,4,none⟩ (.bool st.p.sens)).setCell ⟨w.heap.size,5,none⟩ (.int .i64 st.p.steps)).setCell ⟨w.heap.size,6,none⟩ (.int .i64 st.p.paths)).setCell ⟨w.heap.size,7,none⟩ (.int .i64 st.p.nodes)).setCell ⟨w.heap.size,8,none⟩ (.int .i64 st.p.conf)):=(((((((((h0.set 0 _).set 1 _).set 2 _).set 3 _).set 4 _).set 5 _).set 6 _).set 7 _).set 8 _)
    have q1:BxL 42 (w.heap.size+1) [.int .i64 0,.int .i64 0] (((((((((wr.setCell ⟨w.heap.size,0,none⟩ (.slice pl st.p.lv.length cl)).setCell ⟨w.heap.size,1,none⟩ (.slice po st.p.od.length co)).setCell ⟨w.heap.size,2,none⟩ (.slice pc st.p.ch.length cc)).setCell ⟨w.heap.size,3,none⟩ (.slice ps st.p.st.length cs)).setCell ⟨w.heap.size,4,none⟩ (.bool st.p.sens)).setCell ⟨w.heap.size,5,none⟩ (.int .i64 st.p.steps)).setCell ⟨w.heap.size,6,none⟩ (.int .i64 st.p.paths)).setCell ⟨w.heap.size,7,none⟩ (.int .i64 st.p.nodes)).setCell ⟨w.heap.size,8,none⟩ (.int .i64 st.p.conf)):=(((((((((h1.ot (by omega)).ot (by omega)).ot (by omega)).ot (by omega)).ot (by omega)).ot (by omega)).ot (by omega)).ot (by omega)).ot (by omega))
    have a0:=h0.at 0 rfl;have fr0:=h0.fr 0;have bc0:=HPI9.out.box.at 0 rfl;have a1:=h0.at 1 rfl;have fr1:=h0.fr 1;have bc1:=HPI9.out.box.at 1 rfl;have a2:=h0.at 2 rfl;have fr2:=h0.fr 2;have bc2:=HPI9.out.box.at 2 rfl;have a3:=h0.at 3 rfl;have fr3:=h0.fr 3;have bc3:=HPI9.out.box.at 3 rfl;have a4:=h0.at 4 rfl;have fr4:=h0.fr 4;have bc4:=HPI9.out.box.at 4 rfl;have a5:=h0.at 5 rfl;have fr5:=h0.fr 5;have bc5:=HPI9.out.box.at 5 rfl;have a6:=h0.at 6 rfl;have fr6:=h0.fr 6;have bc6:=HPI9.out.box.at 6 rfl;have a7:=h0.at 7 rfl;have fr7:=h0.fr 7;have bc7:=HPI9.out.box.at 7 rfl;have a8:=h0.at 8 rfl;have fr8:=h0.fr 8;have bc8:=HPI9.out.box.at 8 rfl
    have c0:=q1.at 0 rfl;have c1:=q1.at 1 rfl;have d0:=q1.fr 0;have d1:=q1.fr 1
    have z1:BxL 26 w.heap.size [.slice pl st.p.lv.length cl,.slice po st.p.od.length co,.slice pc st.p.ch.length cc,.slice ps st.p.st.length cs,.bool st.p.sens,.int .i64 st.p.steps,.int .i64 st.p.paths,.int .i64 st.p.nodes,.int .i64 st.p.conf] (((((((((((wr.setCell ⟨w.heap.size,0,none⟩ (.slice pl st.p.lv.length cl)).setCell ⟨w.heap.size,1,none⟩ (.slice po st.p.od.length co)).setCell ⟨w.heap.size,2,none⟩ (.slice pc st.p.ch.length cc)).setCell ⟨w.heap.size,3,none⟩ (.slice ps st.p.st.length cs)).setCell ⟨w.heap.size,4,none⟩ (.bool st.p.sens)).setCell ⟨w.heap.size,5,none⟩ (.int .i64 st.p.steps)).setCell ⟨w.heap.size,6,none⟩ (.int .i64 st.p.paths)).setCell ⟨w.heap.size,7,none⟩ (.int .i64 st.p.nodes)).setCell ⟨w.heap.size,8,none⟩ (.int .i64 st.p.conf)).setCell ⟨w.heap.size+1,0,none⟩ (.int .i64 0)).setCell ⟨w.heap.size+1,1,none⟩ (.int .i64 0)):=((q0.ot (by omega)).ot (by omega))
    have z2:BxL 42 (w.heap.size+1) [.int .i64 0,.int .i64 0] (((((((((((wr.setCell ⟨w.heap.size,0,none⟩ (.slice pl st.p.lv.length cl)).setCell ⟨w.heap.size,1,none⟩ (.slice po st.p.od.length co)).setCell ⟨w.heap.size,2,none⟩ (.slice pc st.p.ch.length cc)).setCell ⟨w.heap.size,3,none⟩ (.slice ps st.p.st.length cs)).setCell ⟨w.heap.size,4,none⟩ (.bool st.p.sens)).setCell ⟨w.heap.size,5,none⟩ (.int .i64 st.p.steps)).setCell ⟨w.heap.size,6,none⟩ (.int .i64 st.p.paths)).setCell ⟨w.heap.size,7,none⟩ (.int .i64 st.p.nodes)).setCell ⟨w.heap.size,8,none⟩ (.int .i64 st.p.conf)).setCell ⟨w.heap.size+1,0,none⟩ (.int .i64 0)).setCell ⟨w.heap.size+1,1,none⟩ (.int .i64 0)):=(q1.set 0 _).set 1 _
    have hbt:But (fun k=>k=w.heap.size∨k=w.heap.size+1) wr (((((((((((wr.setCell ⟨w.heap.size,0,none⟩ (.slice pl st.p.lv.length cl)).setCell ⟨w.heap.size,1,none⟩ (.slice po st.p.od.length co)).setCell ⟨w.heap.size,2,none⟩ (.slice pc st.p.ch.length cc)).setCell ⟨w.heap.size,3,none⟩ (.slice ps st.p.st.length cs)).setCell ⟨w.heap.size,4,none⟩ (.bool st.p.sens)).setCell ⟨w.heap.size,5,none⟩ (.int .i64 st.p.steps)).setCell ⟨w.heap.size,6,none⟩ (.int .i64 st.p.paths)).setCell ⟨w.heap.size,7,none⟩ (.int .i64 st.p.nodes)).setCell ⟨w.heap.size,8,none⟩ (.int .i64 st.p.conf)).setCell ⟨w.heap.size+1,0,none⟩ (.int .i64 0)).setCell ⟨w.heap.size+1,1,none⟩ (.int .i64 0)):=by
     iterate 2 refine But.setC ?_ _ (.inl (.inr rfl))
     iterate 9 refine But.setC ?_ _ (.inl (.inl rfl))
     exact But.refl _ _
    have HPP:=hid (show parseQ s = .ok st.p from by rw [HEQ.out];exact endQ_ok HK8.out)
    clear h0 h1 q0 q1 hk8
    go_wp2_with fail
    try simp only [Exit.jump]
    generalize (((((((((((wr.setCell ⟨w.heap.size,0,none⟩ (.slice pl st.p.lv.length cl)).setCell ⟨w.heap.size,1,none⟩ (.slice po st.p.od.length co)).setCell ⟨w.heap.size,2,none⟩ (.slice pc st.p.ch.length cc)).setCell ⟨w.heap.size,3,none⟩ (.slice ps st.p.st.length cs)).setCell ⟨w.heap.size,4,none⟩ (.bool st.p.sens)).setCell ⟨w.heap.size,5,none⟩ (.int .i64 st.p.steps)).setCell ⟨w.heap.size,6,none⟩ (.int .i64 st.p.paths)).setCell ⟨w.heap.size,7,none⟩ (.int .i64 st.p.nodes)).setCell ⟨w.heap.size,8,none⟩ (.int .i64 st.p.conf)).setCell ⟨w.heap.size+1,0,none⟩ (.int .i64 0)).setCell ⟨w.heap.size+1,1,none⟩ (.int .i64 0))=wz at z1 z2 hbt ⊢
    have g0:=z1.at 0 rfl;have g1:=z1.at 1 rfl;have g2:=z1.at 2 rfl;have g3:=z1.at 3 rfl;have g4:=z1.at 4 rfl;have g5:=z1.at 5 rfl;have g6:=z1.at 6 rfl;have g7:=z1.at 7 rfl;have g8:=z1.at 8 rfl;have k0:=z2.at 0 rfl;have k1:=z2.at 1 rfl
    clear z1 z2
    refine bodyPost_ret (v := .tuple #[.agg #[.slice pl st.p.lv.length cl,.slice po st.p.od.length co,.slice pc st.p.ch.length cc,.slice ps st.p.st.length cs,.bool st.p.sens,.int .i64 st.p.steps,.int .i64 st.p.paths,.int .i64 st.p.nodes,.int .i64 st.p.conf],posV (0,0),.int .i64 0]) (by simp [results,Tryd.results17,go_sem,g0,g1,g2,g3,g4,g5,g6,g7,g8,k0,k1]) rfl ?_
    exact goodL HPP.out ((HBW.out.trans (HPB.out.mono (by have:=HLB.out;omega))).trans (hbt.below (by have h1:=HLB.out;have h2:=HPI9.out.box.lt;omega) fun k hk=>by omega)) (HPI9.out.pov HVS.out HOD.out hbt.size fun k hk hl=>hbt.block k hl (by have:=HLB.out;omega))
end Go.Proofs.YtbijamcoibonkaaDoor
