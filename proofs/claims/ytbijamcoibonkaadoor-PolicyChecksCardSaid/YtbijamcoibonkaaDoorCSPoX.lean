/-
 Law 28: the policy P1, its text, what is refused, awake.
-/
import Derived.Test.YtbijamcoibonkaaDoorCSPoH
import Derived.Test.YtbijamcoibonkaaDoorCSPoJ
import Derived.Test.YtbijamcoibonkaaDoorCSPoW
import Derived.Deep.DeepCutAuto
namespace Go.Proofs.YtbijamcoibonkaaDoor
set_option linter.unusedSimpArgs false
set_option linter.unusedVariables false
open Go.RowKit Go.Shelf
attribute [local go_sem] Oper.semAt_some
structure E28 (w:World):Prop where
 po:PoE w
 kt:KindT w
 ml:∃ m,w.cell? ⟨2,0,none⟩=some (.int .i64 m)
theorem E28.keep {w w':World} (h:E28 w) (hb:Below w.heap.size w w'):E28 w' :=
 ⟨h.po.keep hb,h.kt.keep hb,h.ml.imp fun m hm=>(hb.cell (World.block_lt_of_cell? _ _ hm)).trans hm⟩
theorem PoV.weaken {R R':Nat→Prop} {w:World} {a b c d:Value} {p:Po} (h:PoV R w a b c d p) (hf:∀ k,R k→R' k):PoV R' w a b c d p:=h.keep fun k hk=>⟨hf k hk,rfl⟩
theorem parse_lit (s:Bs) (po:Po) (x y c:Int) (h:parseP s=(po,(x,y),c)) (w:World) (hE:E28 w):Calls Tryd.prog 17 #[.string ⟨s.toArray⟩] w fun e w'=>∃ pa ca pb cb pc cc pd cd,e = .returned (.tuple #[.agg #[.slice pa po.lv.length ca,.slice pb po.od.length cb,.slice pc po.ch.length cc,.slice pd po.st.length cd,.bool po.sens,.int .i64 po.steps,.int .i64 po.paths,.int .i64 po.nodes,.int .i64 po.conf],.agg #[.int .i64 x,.int .i64 y],.int .i64 c])∧PoV (·<w'.heap.size) w' (.slice pa po.lv.length ca) (.slice pb po.od.length cb) (.slice pc po.ch.length cc) (.slice pd po.st.length cd) po∧Below w.heap.size w w':=by
 obtain ⟨m,hm⟩:=hE.ml
 refine (parse_po s m w hm hE.kt hE.po.bru).mono ?_
 rintro e w' ⟨hb,va,vb,vc,vd,he,hv⟩
 rw [h] at he hv
 obtain ⟨pa,ca,h1⟩:=hv.1.slc
 obtain ⟨pb,cb,h2⟩:=hv.2.1.slc
 obtain ⟨pc,cc,h3⟩:=hv.2.2.1.slc
 obtain ⟨pd,cd,h4⟩:=hv.2.2.2.slc
 subst h1 h2 h3 h4
 exact ⟨_,_,_,_,_,_,_,_,he,hv,hb⟩
theorem lit_row {α:Type} (K:EK α) (f:α→List Value) (hf:∀ {R:Nat→Prop} {w:World} (x:α),K.E R w (f x) x) (w:World) (l:List α) (te:TypeId) (hl:l.length≤1000) :
  SlG K (fun k=>k=w.heap.size) (w.alloc (.cells ((l.map f).flatten).toArray te)) (.slice (some ⟨w.heap.size,0,none⟩) l.length l.length) l:=by
 refine ⟨l.map f,⟨by simp,fun i h h'=>?_⟩,_,_,rfl,Nat.le_refl _,by unfold maxLen;omega,by omega,?_⟩
 ·rw [List.getElem_map];exact hf _
 ·exact RowR.lit w _ te rfl
def oneL:Bs:=[108,101,118,101,108,32,108,111,119,10,108,101,118,101,108,32,104,105,103,104,10,111,114,100,101,114,32,108,111,119,32,104,105,103,104,10,99,104,97,110,32,112,117,98,32,108,111,119,10,99,104,97,110,32,115,101,99,32,104,105,103,104,10,109,111,100,101,32,115,101,110,115,105,116,105,118,101,10,115,116,101,112,115,32,50,48,10,112,97,116,104,115,32,49,54,10,110,111,100,101,115,32,48,10,99,111,110,102,108,105,99,116,115,32,48,10]
set_option maxRecDepth 100000 in
theorem one_any (w:World):Calls Tryd.prog 27 #[] w fun e w'=>e = .returned (.string ⟨oneL.toArray⟩)∧w=w':=by
 go_enter Tryd.func27,Tryd.ntmps27
 go_wp2
 go_ret
 exact ⟨rfl,rfl⟩
set_option maxRecDepth 100000 in
set_option maxHeartbeats 4000000 in
theorem plain_any (w:World):Calls Tryd.prog 11 #[] w fun e w'=>∃ pa ca pb cb pc cc pd cd,e = .returned (.agg #[.slice pa 2 ca,.slice pb 1 cb,.slice pc 2 cc,.slice pd 0 cd,.bool true,.int .i64 20,.int .i64 16,.int .i64 0,.int .i64 0])∧PoV (fun k=>w.heap.size≤k∧k<w'.heap.size) w' (.slice pa 2 ca) (.slice pb 1 cb) (.slice pc 2 cc) (.slice pd 0 cd) p1P∧Below w.heap.size w w':=by
 have hr1:∀ W:World,SlG kStr (fun k=>k=W.heap.size) (W.alloc (.cells #[.string ⟨#[108,111,119]⟩,.string ⟨#[104,105,103,104]⟩] 9)) (.slice (some ⟨W.heap.size,0,none⟩) 2 2) p1P.lv:=fun W=>lit_row kStr (fun s=>[.string ⟨s.toArray⟩]) (fun _=>rfl) W p1P.lv 9 (by decide)
 have hr2:∀ W:World,SlG kPair (fun k=>k=W.heap.size) (W.alloc (.cells #[.int .i64 0,.int .i64 1] 58)) (.slice (some ⟨W.heap.size,0,none⟩) 1 1) p1P.od:=fun W=>lit_row kPair (fun x=>[.int .i64 x.1,.int .i64 x.2]) (fun _=>rfl) W p1P.od 58 (by decide)
 have hr3:∀ W:World,SlG kBind (fun k=>k=W.heap.size) (W.alloc (.cells #[.string ⟨#[112,117,98]⟩,.int .i64 0,.string ⟨#[115,101,99]⟩,.int .i64 1] 31)) (.slice (some ⟨W.heap.size,0,none⟩) 2 2) p1P.ch:=fun W=>lit_row kBind (fun x=>[.string ⟨x.1.toArray⟩,.int .i64 x.2]) (fun _=>rfl) W p1P.ch 31 (by decide)
 have H1:=hid hr1;have H2:=hid hr2;have H3:=hid hr3
 clear hr1 hr2 hr3
 go_enter Tryd.func11,Tryd.ntmps11
 go_wp2_with fail
 obtain ⟨w1,hw1⟩:∃ W,w.alloc (.cells #[.slice (some ⟨w.heap.size+1,0,none⟩) 2 2,.slice (some ⟨w.heap.size+1+1,0,none⟩) 1 1,.slice (some ⟨w.heap.size+1+1+1,0,none⟩) 2 2,.slice none 0 0,.bool true,.int .i64 20,.int .i64 16,.int .i64 0,.int .i64 0] 26)=W:=⟨_,rfl⟩
 rw [hw1]
 have hx1:BxL 26 w.heap.size [.slice (some ⟨w.heap.size+1,0,none⟩) 2 2,.slice (some ⟨w.heap.size+1+1,0,none⟩) 1 1,.slice (some ⟨w.heap.size+1+1+1,0,none⟩) 2 2,.slice none 0 0,.bool true,.int .i64 20,.int .i64 16,.int .i64 0,.int .i64 0] w1:=by rw [← hw1];exact BxL.new _ _ _
 have hs1:w1.heap.size=w.heap.size+1:=by rw [← hw1,World.size_alloc]
 have hb1:Below w.heap.size w w1:=by rw [← hw1];exact (Below.refl _ _).alloc (Nat.le_refl _) _
 have r1:=H1.out w1
 rw [hs1] at r1
 clear hw1
 obtain ⟨w2,hw2⟩:∃ W,w1.alloc (.cells #[.string ⟨#[108,111,119]⟩,.string ⟨#[104,105,103,104]⟩] 9)=W:=⟨_,rfl⟩
 rw [hw2] at r1 ⊢
 have hx2:BxL 26 w.heap.size [.slice (some ⟨w.heap.size+1,0,none⟩) 2 2,.slice (some ⟨w.heap.size+1+1,0,none⟩) 1 1,.slice (some ⟨w.heap.size+1+1+1,0,none⟩) 2 2,.slice none 0 0,.bool true,.int .i64 20,.int .i64 16,.int .i64 0,.int .i64 0] w2:=by rw [← hw2];exact hx1.al _
 have hs2:w2.heap.size=w.heap.size+1+1:=by rw [← hw2,World.size_alloc,hs1]
 have hb2:Below w.heap.size w w2:=by rw [← hw2];exact hb1.alloc (by omega) _
 have r2:=H2.out w2
 rw [hs2] at r2
 clear hw2
 obtain ⟨w3,hw3⟩:∃ W,w2.alloc (.cells #[.int .i64 0,.int .i64 1] 58)=W:=⟨_,rfl⟩
 rw [hw3] at r2 ⊢
 have hx3:BxL 26 w.heap.size [.slice (some ⟨w.heap.size+1,0,none⟩) 2 2,.slice (some ⟨w.heap.size+1+1,0,none⟩) 1 1,.slice (some ⟨w.heap.size+1+1+1,0,none⟩) 2 2,.slice none 0 0,.bool true,.int .i64 20,.int .i64 16,.int .i64 0,.int .i64 0] w3:=by rw [← hw3];exact hx2.al _
 have hs3:w3.heap.size=w.heap.size+1+1+1:=by rw [← hw3,World.size_alloc,hs2]
 have hb3:Below w.heap.size w w3:=by rw [← hw3];exact hb2.alloc (by omega) _
 have k3:∀ k,k<w2.heap.size→w3.heap[k]?=w2.heap[k]?:=fun k hk=>by rw [← hw3];exact ((Below.refl _ _).alloc (Nat.le_refl _) _).block k hk
 have r3:=H3.out w3
 rw [hs3] at r3
 clear hw3
 obtain ⟨w4,hw4⟩:∃ W,w3.alloc (.cells #[.string ⟨#[112,117,98]⟩,.int .i64 0,.string ⟨#[115,101,99]⟩,.int .i64 1] 31)=W:=⟨_,rfl⟩
 rw [hw4] at r3 ⊢
 have hx4:BxL 26 w.heap.size [.slice (some ⟨w.heap.size+1,0,none⟩) 2 2,.slice (some ⟨w.heap.size+1+1,0,none⟩) 1 1,.slice (some ⟨w.heap.size+1+1+1,0,none⟩) 2 2,.slice none 0 0,.bool true,.int .i64 20,.int .i64 16,.int .i64 0,.int .i64 0] w4:=by rw [← hw4];exact hx3.al _
 have hs4:w4.heap.size=w.heap.size+1+1+1+1:=by rw [← hw4,World.size_alloc,hs3]
 have hb4:Below w.heap.size w w4:=by rw [← hw4];exact hb3.alloc (by omega) _
 have k4:∀ k,k<w3.heap.size→w4.heap[k]?=w3.heap[k]?:=fun k hk=>by rw [← hw4];exact ((Below.refl _ _).alloc (Nat.le_refl _) _).block k hk
 clear hw4
 have hv:PoV (fun k=>w.heap.size≤k∧k<w4.heap.size) w4 (.slice (some ⟨w.heap.size+1,0,none⟩) 2 2) (.slice (some ⟨w.heap.size+1+1,0,none⟩) 1 1) (.slice (some ⟨w.heap.size+1+1+1,0,none⟩) 2 2) (.slice none 0 0) p1P :=
  ⟨r1.keep fun k hk=>by subst hk;exact ⟨⟨by omega,by omega⟩,(k4 _ (by omega)).trans (k3 _ (by omega))⟩,r2.keep fun k hk=>by subst hk;exact ⟨⟨by omega,by omega⟩,k4 _ (by omega)⟩,r3.keep fun k hk=>by subst hk;exact ⟨⟨by omega,by omega⟩,rfl⟩,SlG.nil⟩
 have c0:w4.cell? ⟨w.heap.size,0,none⟩=some (.slice (some ⟨w.heap.size+1,0,none⟩) 2 2):=hx4.at 0 rfl
 have c1:w4.cell? ⟨w.heap.size,1,none⟩=some (.slice (some ⟨w.heap.size+1+1,0,none⟩) 1 1):=hx4.at 1 rfl
 have c2:w4.cell? ⟨w.heap.size,2,none⟩=some (.slice (some ⟨w.heap.size+1+1+1,0,none⟩) 2 2):=hx4.at 2 rfl
 have c3:w4.cell? ⟨w.heap.size,3,none⟩=some (.slice none 0 0):=hx4.at 3 rfl
 have c4:w4.cell? ⟨w.heap.size,4,none⟩=some (.bool true):=hx4.at 4 rfl
 have c5:w4.cell? ⟨w.heap.size,5,none⟩=some (.int .i64 20):=hx4.at 5 rfl
 have c6:w4.cell? ⟨w.heap.size,6,none⟩=some (.int .i64 16):=hx4.at 6 rfl
 have c7:w4.cell? ⟨w.heap.size,7,none⟩=some (.int .i64 0):=hx4.at 7 rfl
 have c8:w4.cell? ⟨w.heap.size,8,none⟩=some (.int .i64 0):=hx4.at 8 rfl
 refine bodyPost_ret (v := .agg #[.slice (some ⟨w.heap.size+1,0,none⟩) 2 2,.slice (some ⟨w.heap.size+1+1,0,none⟩) 1 1,.slice (some ⟨w.heap.size+1+1+1,0,none⟩) 2 2,.slice none 0 0,.bool true,.int .i64 20,.int .i64 16,.int .i64 0,.int .i64 0]) (by simp [results,Tryd.results11,go_sem,c0,c1,c2,c3,c4,c5,c6,c7,c8]) rfl ?_
 exact ⟨_,_,_,_,_,_,_,_,rfl,hv,hb4⟩
theorem p1_print:printP p1P=(oneL,0):=by decide +kernel
theorem p1_s:PoS p1P:=⟨by decide,by unfold ShortB;decide,by unfold ShortB;decide⟩
theorem print_p1 (pa pb pc pd:Option Addr) (ca cb cc cd:Nat) (w:World) (hE:E28 w) (hv:PoV (·<w.heap.size) w (.slice pa 2 ca) (.slice pb 1 cb) (.slice pc 2 cc) (.slice pd 0 cd) p1P) :
  Calls Tryd.prog 12 #[.agg #[.slice pa 2 ca,.slice pb 1 cb,.slice pc 2 cc,.slice pd 0 cd,.bool true,.int .i64 20,.int .i64 16,.int .i64 0,.int .i64 0]] w fun e w'=>e = .returned (.tuple #[.string ⟨oneL.toArray⟩,.int .i64 0])∧Below w.heap.size w w':=by
 have h:=print_po p1P _ _ _ _ w hE.po hv p1_s
 rw [p1_print] at h
 exact h
set_option maxRecDepth 100000 in
set_option maxHeartbeats 4000000 in
theorem fails_any (o n:Bs) (x y c:Int) (t:Bs) (po:Po) (ho:1≤o.length) (hc:oneL.length+Lib.countB ⟨oneL.toArray⟩ ⟨o.toArray⟩*n.length≤140737488355328) (ht:Lib.replace oneL o n 1=t) (hp:parseP t=(po,(x,y),c)) (w:World) (hE:E28 w) :
  Calls Tryd.prog 29 #[.string ⟨o.toArray⟩,.string ⟨n.toArray⟩,.int .i64 x,.int .i64 y,.int .i64 c] w fun e w'=>e = .returned (.bool true)∧Below w.heap.size w w':=by
 have HRE:=hid (fun W (hW:E28 W)=>show Calls Tryd.prog 28 #[.string ⟨oneL.toArray⟩,.string ⟨o.toArray⟩,.string ⟨n.toArray⟩,.int .i64 1] W (fun e w'=>e = .returned (.string ⟨t.toArray⟩)∧Below W.heap.size W w') from by
  obtain ⟨m,hm⟩:=hW.ml
  have h:=Tryd.strings_Replace ⟨oneL.toArray⟩ ⟨o.toArray⟩ ⟨n.toArray⟩ 1 m W (by decide) hm ho hc
  rw [← ht]
  exact h)
 have HPA:=hid (fun W (hW:E28 W)=>parse_lit t po x y c hp W hW)
 have HE:=hid hE
 have t1:(x == x)=true:=beq_self_eq_true x
 have t2:(y == y)=true:=beq_self_eq_true y
 have t3:(c == c)=true:=beq_self_eq_true c
 clear ho hc ht hp hE
 go_enter Tryd.func29,Tryd.ntmps29
 go_wp2_with (first
  | (go_at_call 27;(with_reducible refine (one_any _).mono ?_);rintro e w1 ⟨rfl,h1⟩;have h1:=h1.symm;subst h1)
  | (go_at_call 28;(with_reducible refine (HRE.out _ HE.out).mono ?_);rintro e w2 ⟨rfl,hb⟩;have HB2:=hid hb;clear hb)
  | (go_at_call 17;(with_reducible refine (HPA.out _ (HE.out.keep HB2.out)).mono ?_);rintro e w3 ⟨pa,ca,pb,cb,pc,cc,pd,cd,rfl,hv,hb⟩;have HB3:=hid (HB2.out.trans (hb.mono HB2.out.size));clear hv hb))
 go_ret
 exact ⟨rfl,(HB3.out.alloc HB3.out.size _).alloc (by rw [World.size_alloc];have:=HB3.out.size;omega) _⟩
end Go.Proofs.YtbijamcoibonkaaDoor
