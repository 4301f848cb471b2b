/-
 A part.
-/
import Derived.Test.YtoofbgoeipijcaaGreatDoorVB37
namespace Go.Proofs.YtoofbgoeipijcaaGreatDoor
set_option linter.all false
open Go.RowKit Go.Shelf
attribute [local go_sem] Oper.semAt_some
def ParsePost (s:Bs) (w:World) (e:Ending) (w':World):Prop:=Below w.heap.size w w'/\∃ a b c d,e=.returned (.tuple #[.agg #[.int .i64 (parseM s).1.width,a,b,c,d],posV (parseM s).2.1,.int .i64 (parseM s).2.2])/\PgV (·<w'.heap.size) w' a b c d (parseM s).1
theorem parse_refused {s:Bs} {f:Flt} (h:parseE s=.error f):parseM s=(pg0,f.1,f.2):=by unfold parseM;rw [h]
theorem parse_read {s:Bs} {p:Pg} (h:parseE s=.ok p):parseM s=(p,(0,0),0):=by unfold parseM;rw [h]
theorem lines_err {s:Bs} {L C:Nat} {c:Int} (h:linesR s=.error (L,C,c)):parseE s=.error (((L:Int),(C:Int)),c)/\c ≠ 0:=by
 unfold linesR at h
 unfold parseE
 split at h
 ·rename_i hl
  injection h with h;injection h with h1 h;injection h with h2 h3;subst h1 h2 h3
  rw [if_pos hl];exact ⟨rfl,by decide⟩
 ·rename_i hl
  rw [if_neg hl]
  cases ht:tok s with
  | error q=>rw [ht] at h;injection h with h;injection h with h1 h;injection h with h2 h3;subst h1 h2 h3;exact ⟨rfl,by decide⟩
  | ok o=>rw [ht] at h;cases h
theorem lines_ok {s:Bs} {o:List (List Wd)} (h:linesR s=.ok o):s.length<=65536/\tok s=.ok o:=by
 unfold linesR at h
 split at h
 ·cases h
 ·rename_i hl
  cases ht:tok s with
  | error q=>rw [ht] at h;cases h
  | ok o'=>rw [ht] at h;injection h with h;subst h;exact ⟨by omega,rfl⟩
theorem parse_of {s:Bs} {o:List (List Wd)} (h:linesR s=.ok o):parseE s=(linesP ps0P o >>= fun st=>needM (decide (st.inn=3)) (endOf s) 4 >>= fun _=>needM (decide ((checkM st.p).2=0)) (checkM st.p).1 (checkM st.p).2 >>= fun _=>pure st.p):=by
 obtain ⟨h1,h2⟩:=lines_ok h
 unfold parseE
 rw [if_neg (by omega),h2]
theorem parse_line {s:Bs} {o:List (List Wd)} {f:Flt} (h:linesR s=.ok o) (hl:linesP ps0P o=.error f):parseE s=.error f:=by rw [parse_of h,hl];rfl
theorem parse_end {s:Bs} {o:List (List Wd)} {S:PS} (h:linesR s=.ok o) (hl:linesP ps0P o=.ok S) (hn:S.inn ≠ 3):parseE s=.error (endOf s,4):=by rw [parse_of h,hl];simp [bind,Except.bind,needM,hn]
theorem parse_bad {s:Bs} {o:List (List Wd)} {S:PS} (h:linesR s=.ok o) (hl:linesP ps0P o=.ok S) (hn:S.inn=3) (hc:(checkM S.p).2 ≠ 0):parseE s=.error (checkM S.p):=by rw [parse_of h,hl];simp [bind,Except.bind,needM,hn,hc]
theorem parse_good {s:Bs} {o:List (List Wd)} {S:PS} (h:linesR s=.ok o) (hl:linesP ps0P o=.ok S) (hn:S.inn=3) (hc:(checkM S.p).2=0):parseE s=.ok S.p:=by rw [parse_of h,hl];simp [bind,Except.bind,needM,hn,hc,pure,Except.pure]
theorem lines_step {S:PS} {o:List (List Wd)} {j:Nat} (hj:j<o.length):linesP S (o.drop j)=match lineP S o[j] with | .error e => .error e | .ok S'=>linesP S' (o.drop (j+1)):=by rw [List.drop_eq_getElem_cons hj,linesP_cons];cases lineP S o[j] <;> rfl
theorem lines_done {S:PS} {o:List (List Wd)} {j:Nat} (hj:o.length<=j):linesP S (o.drop j)=.ok S:=by rw [List.drop_eq_nil_of_le hj];rfl
theorem PgV.zero {R:Nat->Prop} {w:World}:PgV R w (.slice none 0 0) (.slice none 0 0) (.slice none 0 0) (.slice none 0 0) pg0:=⟨SlG.nil,SlG.nil,SlG.nil,SlG.nil⟩
theorem parse_fine {s:Bs} {p:Pg} {a b c d:Value} {w w':World} (h:parseE s=.ok p) (hb:Below w.heap.size w w') (hp:PgV (·<w'.heap.size) w' a b c d p):ParsePost s w (.returned (.tuple #[.agg #[.int .i64 p.width,a,b,c,d],.agg #[.int .i64 0,.int .i64 0],.int .i64 0])) w':=by
 unfold ParsePost
 rw [parse_read h]
 exact ⟨hb,_,_,_,_,rfl,hp⟩
theorem WLL.slc {R:Nat->Prop} {w:World} {v:Value} {ls:List (List Wd)} (h:WLL R w v ls):∃ p c,v=.slice p ls.length c:=by
 obtain ⟨vs,⟨p,c,e,_⟩,hl,_⟩:=h
 exact ⟨p,c,by rw [e,hl]⟩
theorem WLL.len {R:Nat->Prop} {w:World} {v:Value} {ls:List (List Wd)} (h:WLL R w v ls):ls.length<=140737488355328:=by
 obtain ⟨vs,h1,h2,_⟩:=h
 rw [<- h2];exact h1.len
theorem WLL.at' {R:Nat->Prop} {w:World} {p:Option Addr} {n c:Nat} {ls:List (List Wd)} (h:WLL R w (.slice p n c) ls) {j:Nat} (hj:j<ls.length):∃ lb off q cq,p=some ⟨lb,off,none⟩/\R lb/\w.cell? ⟨lb,off+j,none⟩=some (.slice q ls[j].length cq)/\RowR R w q (wflat ls[j]):=by
 obtain ⟨vs,⟨p',c',e,_,_,_,hr⟩,hl,hE⟩:=h
 cases e
 obtain ⟨b,off,e,hR,hc⟩:=hr.at j (by omega)
 obtain ⟨q,cq,e2,_,_,hrow⟩:=hE j hj (by omega)
 exact ⟨b,off,q,cq,e,hR,by rw [hc j (by omega),e2],hrow⟩
theorem parse_out {s:Bs} {f:Flt} {w w':World} (h:parseE s=.error f) (hb:Below w.heap.size w w'):ParsePost s w (.returned (.tuple #[.agg #[.int .i64 0,.slice none 0 0,.slice none 0 0,.slice none 0 0,.slice none 0 0],.agg #[.int .i64 f.1.1,.int .i64 f.1.2],.int .i64 f.2])) w':=by
 unfold ParsePost
 rw [parse_refused h]
 exact ⟨hb,_,_,_,_,rfl,PgV.zero⟩
set_option maxRecDepth 100000 in
set_option maxHeartbeats 4000000 in
theorem parse_any (s:Bs) (m:Int) (w:World) (hE:PrE0 w) (hm:w.cell? ⟨0,0,none⟩=some (.int .i64 m)):Calls Tryz.prog 28 #[.string ⟨s.toArray⟩] w (ParsePost s w):=by
 have hmf:∀ (fn:Fn) (first cap:Array Value) (w:World),(Instr.makeFunc fn first cap).run Tryz.prog w=.ok (.func fn first cap) w:=fun _ _ _ _=>rfl
 have HE:=hid hE;have HM:=hid hm
 clear hE hm
 go_enter_defers Tryz.func28,Tryz.ntmps28
 go_upto_region 1 with fail
 obtain ⟨w3,hw3⟩:∃ W,((w.alloc (.cells #[.int .i64 0,.slice none 0 0,.slice none 0 0,.slice none 0 0,.slice none 0 0] 27)).alloc (.cells #[.int .i64 0,.int .i64 0] 39)).alloc (.cells #[.int .i64 0] 29)=W:=⟨_,rfl⟩
 have hs3:w3.heap.size=w.heap.size+1+1+1:=by rw [<- hw3];simp only [sA]
 have hb3:Below w.heap.size w w3:=by rw [<- hw3];exact ((bA).alloc (by simp only [sA];omega) _).alloc (by simp only [sA];omega) _
 have h13:BxL 27 w.heap.size [.int .i64 0,.slice none 0 0,.slice none 0 0,.slice none 0 0,.slice none 0 0] w3:=by
  rw [<- hw3]
  exact ((BxL.new 27 w [.int .i64 0,.slice none 0 0,.slice none 0 0,.slice none 0 0,.slice none 0 0]).al _).al _
 have h23:BxL 39 (w.heap.size+1) [.int .i64 0,.int .i64 0] w3:=by
  rw [<- hw3]
  have:=BxL.new 39 (w.alloc (.cells #[.int .i64 0,.slice none 0 0,.slice none 0 0,.slice none 0 0,.slice none 0 0] 27)) [.int .i64 0,.int .i64 0]
  rw [sA] at this
  exact this.al _
 have h33:BxL 29 (w.heap.size+1+1) [.int .i64 0] w3:=by
  rw [<- hw3]
  have:=BxL.new 29 ((w.alloc (.cells #[.int .i64 0,.slice none 0 0,.slice none 0 0,.slice none 0 0,.slice none 0 0] 27)).alloc (.cells #[.int .i64 0,.int .i64 0] 39)) [.int .i64 0]
  rw [sA,sA] at this
  exact this
 rw [hw3]
 clear hw3
 have HS3:=hid hs3;have HB3:=hid hb3;have H13:=hid h13;have H23:=hid h23;have H33:=hid h33
 have hm3:w3.cell? ⟨0,0,none⟩=some (.int .i64 m):=cB hb3 HM.out
 have HLN:=hid (lines_any s m w3 hm3)
 clear hs3 hb3 h13 h23 h33 hm3
 cases hlr:linesR s with
 | error q =>
  obtain ⟨L,C,c⟩:=q
  obtain ⟨he,hc⟩:=lines_err hlr
  have HPE:=hid he
  have gc:(c == 0)=false:=by rw [beq_eq_false_iff_ne];exact hc
  have HP:=hid (show LinesPost s w3=_ from by unfold LinesPost;rw [hlr])
  clear hlr he hc
  go_upto_region 2 with (go_at_call 35;refine HLN.out.mono ?_;rw [HP.out];rintro e w4 ⟨hb,rfl⟩;have HB4:=hid hb;clear hb)
  obtain ⟨b6,hb6⟩:∃ b,w4.heap.size=b:=⟨_,rfl⟩
  obtain ⟨w5,hw5⟩:∃ W,w4.alloc (.cells #[.int .i64 (L:Int),.int .i64 (C:Int)] 39)=W:=⟨_,rfl⟩
  have h65:BxL 39 b6 [.int .i64 (L:Int),.int .i64 (C:Int)] w5:=by rw [<- hw5,<- hb6];exact BxL.new _ _ _
  have hb5:Below w3.heap.size w3 w5:=by rw [<- hw5];exact HB4.alloc HB4.size _
  have hs6:w3.heap.size<=b6:=by rw [<- hb6];exact HB4.size
  rw [hw5,hb6]
  clear hw5 hb6
  have H65:=hid h65;have HB5:=hid hb5;have HS6:=hid (show w.heap.size+1+1+1<=b6 from by rw [<- HS3.out];exact hs6)
  clear h65 hb5 hs6
  have n1:w.heap.size ≠ b6:=by have:=HS6.out;omega
  have n2:w.heap.size+1 ≠ b6:=by have:=HS6.out;omega
  have HN1:=hid n1;have HN2:=hid n2
  clear n1 n2
  have g1:=H13.bel HB5.out;have g2:=H23.bel HB5.out;have g3:=H33.bel HB5.out
  have HBW:=hid (show Below w.heap.size w w5 from HB3.trans (HB5.mono (by have:=HS3.out;omega)))
  have HG2:=hid g2;have HG3:=hid g3;have HG1:=hid g1
  have a0:=g1.at 0 rfl;have a1:=g1.at 1 rfl;have a2:=g1.at 2 rfl;have a3:=g1.at 3 rfl;have a4:=g1.at 4 rfl
  have b0:=g1.fr 0;have b1:=g1.fr 1;have b2:=g1.fr 2;have b3:=g1.fr 3;have b4:=g1.fr 4
  clear g1 g2 g3
  go_upto_region 3 with fail
  have hq1:BxL 27 w.heap.size [.int .i64 0,.slice none 0 0,.slice none 0 0,.slice none 0 0,.slice none 0 0] (((((w5.setCell ⟨w.heap.size,0,none⟩ (.int .i64 0)).setCell ⟨w.heap.size,1,none⟩ (.slice none 0 0)).setCell ⟨w.heap.size,2,none⟩ (.slice none 0 0)).setCell ⟨w.heap.size,3,none⟩ (.slice none 0 0)).setCell ⟨w.heap.size,4,none⟩ (.slice none 0 0)):=((((HG1.set 0 _).set 1 _).set 2 _).set 3 _).set 4 _
  have hq2:BxL 39 (w.heap.size+1) [.int .i64 0,.int .i64 0] (((((w5.setCell ⟨w.heap.size,0,none⟩ (.int .i64 0)).setCell ⟨w.heap.size,1,none⟩ (.slice none 0 0)).setCell ⟨w.heap.size,2,none⟩ (.slice none 0 0)).setCell ⟨w.heap.size,3,none⟩ (.slice none 0 0)).setCell ⟨w.heap.size,4,none⟩ (.slice none 0 0)):=((((HG2.ot (by omega)).ot (by omega)).ot (by omega)).ot (by omega)).ot (by omega)
  have hq6:BxL 39 b6 [.int .i64 (L:Int),.int .i64 (C:Int)] (((((w5.setCell ⟨w.heap.size,0,none⟩ (.int .i64 0)).setCell ⟨w.heap.size,1,none⟩ (.slice none 0 0)).setCell ⟨w.heap.size,2,none⟩ (.slice none 0 0)).setCell ⟨w.heap.size,3,none⟩ (.slice none 0 0)).setCell ⟨w.heap.size,4,none⟩ (.slice none 0 0)):=((((H65.ot (Ne.symm HN1.out)).ot (Ne.symm HN1.out)).ot (Ne.symm HN1.out)).ot (Ne.symm HN1.out)).ot (Ne.symm HN1.out)
  have hS:(fun W:World=>W.cell? ⟨b6,0,none⟩=some (.int .i64 (L:Int))/\W.cell? ⟨b6,1,none⟩=some (.int .i64 (C:Int))) w5.drew:=⟨H65.dr.at 0 rfl,H65.dr.at 1 rfl⟩
  have hS1:(fun W:World=>W.cell? ⟨b6,0,none⟩=some (.int .i64 (L:Int))/\W.cell? ⟨b6,1,none⟩=some (.int .i64 (C:Int))) ((((((w5.setCell ⟨w.heap.size,0,none⟩ (.int .i64 0)).setCell ⟨w.heap.size,1,none⟩ (.slice none 0 0)).setCell ⟨w.heap.size,2,none⟩ (.slice none 0 0)).setCell ⟨w.heap.size,3,none⟩ (.slice none 0 0)).setCell ⟨w.heap.size,4,none⟩ (.slice none 0 0))).drew:=⟨hq6.dr.at 0 rfl,hq6.dr.at 1 rfl⟩
  have c0:=hq2.at 0 rfl;have c1:=hq2.at 1 rfl;have d0:=hq2.fr 0;have d1:=hq2.fr 1
  have HQ1:=hid hq1;have HQ2:=hid hq2
  have hq3:BxL 29 (w.heap.size+1+1) [.int .i64 0] (((((((w5.setCell ⟨w.heap.size,0,none⟩ (.int .i64 0)).setCell ⟨w.heap.size,1,none⟩ (.slice none 0 0)).setCell ⟨w.heap.size,2,none⟩ (.slice none 0 0)).setCell ⟨w.heap.size,3,none⟩ (.slice none 0 0)).setCell ⟨w.heap.size,4,none⟩ (.slice none 0 0)).setCell ⟨w.heap.size+1,0,none⟩ (.int .i64 (L:Int))).setCell ⟨w.heap.size+1,1,none⟩ (.int .i64 (C:Int))):=((((((HG3.ot (by omega)).ot (by omega)).ot (by omega)).ot (by omega)).ot (by omega)).ot (by omega)).ot (by omega)
  have HQ3:=hid hq3
  have e0:=hq3.at 0 rfl;have e1:=hq3.fr 0
  clear hq1 hq2 hq6 hq3
  have hFa:=fT
  refine rgN (fun W:World=>W.cell? ⟨b6,0,none⟩=some (.int .i64 (L:Int))/\W.cell? ⟨b6,1,none⟩=some (.int .i64 (C:Int))) 4 (by kernel_rfl) ?_
  simp only [zP,Nat.reduceAdd]
  iterate 2 (refine nxW (v:=?_) 6 hS ?_ ?_;rotate_left;(focus rintro w' ⟨s0,s1⟩;go_simp;try rfl);simp only [aP])
  (refine npW (v:=?_) 6 (.inr hS) ?_ ?_;rotate_left;(focus rintro w' _;go_simp;try rfl);simp only [aP])
  refine oy 3 fun K hK=>?_
  go_simp
  refine hK _ _ (.inr (.inr hS1)) ?_
  clear hK K
  refine oy 4 fun K hK=>?_
  go_simp
  refine hK _ _ (.inl rfl) ?_
  clear hK K
  refine oy 5 fun K hK=>?_
  go_simp
  refine hK _ _ (.inr (.inl rfl)) (dN ?_)
  clear hK K
  simp only [onlyN,Exit.then]
  clear hFa
  go_wp2_with fail
  have z1:BxL 27 w.heap.size [.int .i64 0,.slice none 0 0,.slice none 0 0,.slice none 0 0,.slice none 0 0] ((((((((w5.setCell ⟨w.heap.size,0,none⟩ (.int .i64 0)).setCell ⟨w.heap.size,1,none⟩ (.slice none 0 0)).setCell ⟨w.heap.size,2,none⟩ (.slice none 0 0)).setCell ⟨w.heap.size,3,none⟩ (.slice none 0 0)).setCell ⟨w.heap.size,4,none⟩ (.slice none 0 0)).setCell ⟨w.heap.size+1,0,none⟩ (.int .i64 (L:Int))).setCell ⟨w.heap.size+1,1,none⟩ (.int .i64 (C:Int))).setCell ⟨w.heap.size+1+1,0,none⟩ (.int .i64 c)).drew:=(((HQ1.ot (by omega)).ot (by omega)).ot (by omega)).dr
  have z2:BxL 39 (w.heap.size+1) [.int .i64 (L:Int),.int .i64 (C:Int)] ((((((((w5.setCell ⟨w.heap.size,0,none⟩ (.int .i64 0)).setCell ⟨w.heap.size,1,none⟩ (.slice none 0 0)).setCell ⟨w.heap.size,2,none⟩ (.slice none 0 0)).setCell ⟨w.heap.size,3,none⟩ (.slice none 0 0)).setCell ⟨w.heap.size,4,none⟩ (.slice none 0 0)).setCell ⟨w.heap.size+1,0,none⟩ (.int .i64 (L:Int))).setCell ⟨w.heap.size+1,1,none⟩ (.int .i64 (C:Int))).setCell ⟨w.heap.size+1+1,0,none⟩ (.int .i64 c)).drew:=(((HQ2.set 0 _).set 1 _).ot (by omega)).dr
  have z3:BxL 29 (w.heap.size+1+1) [.int .i64 c] ((((((((w5.setCell ⟨w.heap.size,0,none⟩ (.int .i64 0)).setCell ⟨w.heap.size,1,none⟩ (.slice none 0 0)).setCell ⟨w.heap.size,2,none⟩ (.slice none 0 0)).setCell ⟨w.heap.size,3,none⟩ (.slice none 0 0)).setCell ⟨w.heap.size,4,none⟩ (.slice none 0 0)).setCell ⟨w.heap.size+1,0,none⟩ (.int .i64 (L:Int))).setCell ⟨w.heap.size+1,1,none⟩ (.int .i64 (C:Int))).setCell ⟨w.heap.size+1+1,0,none⟩ (.int .i64 c)).drew:=(HQ3.set 0 _).dr
  have hbz:Below w.heap.size w ((((((((w5.setCell ⟨w.heap.size,0,none⟩ (.int .i64 0)).setCell ⟨w.heap.size,1,none⟩ (.slice none 0 0)).setCell ⟨w.heap.size,2,none⟩ (.slice none 0 0)).setCell ⟨w.heap.size,3,none⟩ (.slice none 0 0)).setCell ⟨w.heap.size,4,none⟩ (.slice none 0 0)).setCell ⟨w.heap.size+1,0,none⟩ (.int .i64 (L:Int))).setCell ⟨w.heap.size+1,1,none⟩ (.int .i64 (C:Int))).setCell ⟨w.heap.size+1+1,0,none⟩ (.int .i64 c)).drew:=by
   refine Below.drew ?_
   iterate 8 refine Below.setCell ?_ (by dsimp only;omega) _
   exact HBW.out
  show Leaves _ _ _ _ [] .returning _
  generalize ((((((((w5.setCell ⟨w.heap.size,0,none⟩ (.int .i64 0)).setCell ⟨w.heap.size,1,none⟩ (.slice none 0 0)).setCell ⟨w.heap.size,2,none⟩ (.slice none 0 0)).setCell ⟨w.heap.size,3,none⟩ (.slice none 0 0)).setCell ⟨w.heap.size,4,none⟩ (.slice none 0 0)).setCell ⟨w.heap.size+1,0,none⟩ (.int .i64 (L:Int))).setCell ⟨w.heap.size+1,1,none⟩ (.int .i64 (C:Int))).setCell ⟨w.heap.size+1+1,0,none⟩ (.int .i64 c)).drew=wz at z1 z2 z3 hbz ⊢
  have y0:=z1.at 0 rfl;have y1:=z1.at 1 rfl;have y2:=z1.at 2 rfl;have y3:=z1.at 3 rfl;have y4:=z1.at 4 rfl
  have y5:=z2.at 0 rfl;have y6:=z2.at 1 rfl;have y7:=z3.at 0 rfl
  clear z1 z2 z3
  simp [Leaves,results,Tryz.results28,go_sem,y0,y1,y2,y3,y4,y5,y6,y7]
  exact parse_out HPE.out hbz
 | ok out =>
  obtain ⟨hsl,htk⟩:=lines_ok hlr
  have HWK:=hid (tok_wok hsl htk)
  have HLR:=hid hlr
  have HSL:=hid hsl
  have HP:=hid (show LinesPost s w3=_ from by unfold LinesPost;rw [hlr])
  clear hlr hsl htk
  obtain ⟨LO,hLO⟩:∃ n,out.length=n:=⟨_,rfl⟩
  have HLO:=hid hLO
  clear hLO
  go_upto_region 2 with (go_at_call 35;refine HLN.out.mono ?_;rw [HP.out];rintro e w4 ⟨hb,v,rfl,hwl,-⟩;obtain ⟨pv,cv,hv⟩:=hwl.slc;rw [HLO.out] at hv;subst hv;have HB4:=hid hb;have HWL:=hid hwl;clear hb hwl)
  have HLE:=hid (show LO<=140737488355328 from by rw [<- HLO.out];exact HWL.len)
  obtain ⟨b6,hb6⟩:∃ b,w4.heap.size=b:=⟨_,rfl⟩
  obtain ⟨w5,hw5⟩:∃ W,w4.alloc (.cells #[.int .i64 0,.int .i64 0] 39)=W:=⟨_,rfl⟩
  have h65:BxL 39 b6 [.int .i64 0,.int .i64 0] w5:=by rw [<- hw5,<- hb6];exact BxL.new _ _ _
  have hb45:Below w4.heap.size w4 w5:=by rw [<- hw5];exact bA
  have hs6:w3.heap.size<=b6:=by rw [<- hb6];exact HB4.size
  have hz5:w5.heap.size=b6+1:=by rw [<- hw5,sA,hb6]
  rw [hw5,hb6]
  clear hw5
  have HB5:=hid hb45;have H65:=hid h65;have HZ5:=hid hz5;have HZ4:=hid hb6
  have HBA:=hid (show Below w3.heap.size w3 w5 from HB4.trans (hb45.mono HB4.size))
  have HS6:=hid (show w.heap.size+1+1+1<=b6 from by rw [<- HS3.out];exact hs6)
  clear h65 hb45 hs6 hz5 hb6
  have H15:=hid (H13.bel HBA.out);have H25:=hid (H23.bel HBA.out);have H35:=hid (H33.bel HBA.out)
  have HBW:=hid (show Below w.heap.size w w5 from HB3.trans (HBA.mono (by have:=HS3.out;omega)))
  go_upto_region 6 with fail
  have hpm0:Pm w5.heap.size w5.heap.size (fun _ => .slice none 0 0) none 0 [] ps0P 0 (w5.alloc (.cells #[.int .i64 0,.slice none 0 0,.slice none 0 0,.slice none 0 0,.slice none 0 0,.slice none 0 0,.int .i64 0,.slice none 0 0,.slice none 0 0,.slice none 0 0,.slice none 0 0,.int .i64 0,.int .i64 0] 106)):=Pm.start rfl
  obtain ⟨w6,hw6⟩:∃ W,w5.alloc (.cells #[.int .i64 0,.slice none 0 0,.slice none 0 0,.slice none 0 0,.slice none 0 0,.slice none 0 0,.int .i64 0,.slice none 0 0,.slice none 0 0,.slice none 0 0,.slice none 0 0,.int .i64 0,.int .i64 0] 106)=W:=⟨_,rfl⟩
  have hb56:Below w5.heap.size w5 w6:=by rw [<- hw6];exact bA
  rw [hw6] at hpm0
  rw [hw6]
  clear hw6
  have HPM:=hid hpm0;have HB6:=hid hb56
  clear hpm0 hb56
  go_wp2_with fail
  go_loopw [10,27] (fun lv iv wr=>∃ (j:Nat) (S:PS) (O:Nat->Value) (pw:Option Addr) (cw:Nat) (ws:List Wd) (k:Nat),j<=LO/\iv=.int .i64 (j:Int)/\linesP ps0P out=linesP S (out.drop j)/\SIv S/\CdOk S.p/\Pm w5.heap.size w5.heap.size O pw cw ws S k wr/\Below w5.heap.size w6 wr) (fun _ iv _=>LO - (intOf iv).toNat)
  case atStart=>exact ⟨0,ps0P,_,none,0,[],0,Nat.zero_le _,rfl,rfl,siv0,cd0,HPM.out,Below.refl _ _⟩
  case round =>
   obtain ⟨j,S,O,pw,cw,ws,k,hj,rfl,hl,hsi,hcd,hpm,hb6⟩:=hrel
   by_cases hlt:j<LO
   ·skip
    have t1:decide ((j:Int)<(LO:Int))=true:=decide_eq_true (by omega)
    have hjl:j<out.length:=by rw [HLO.out];exact hlt
    have HJL:=hid hjl
    obtain ⟨lb,off,q,cq,hpv,hR,hcell,hrow⟩:=HWL.at' hjl
    subst hpv
    obtain ⟨LR,hLR⟩:∃ n,(out[j]'hjl).length=n:=⟨_,rfl⟩
    have hl4:lb<w4.heap.size:=hR.2.size
    have hbr6:Below w5.heap.size w6 wr:=hb6
    have c0:wr.cell? ⟨lb,off+j,none⟩=some (.slice q LR cq):=by
     rw [<- hLR]
     exact (hbr6.cell (p:=⟨lb,_,none⟩) (by have:=HB5.size;dsimp only;omega)).trans ((HB6.cell (p:=⟨lb,_,none⟩) (by have:=HB5.size;dsimp only;omega)).trans ((HB5.cell (p:=⟨lb,_,none⟩) hl4).trans hcell))
    have hrow':RowR (·<w5.heap.size) wr q (wflat (out[j]'hjl)):=hrow.keep fun i hi=>by
     have h4:i<w4.heap.size:=hi.2.size
     have h5:i<w5.heap.size:=by have:=HB5.size;omega
     exact ⟨h5,(hbr6.block i h5).trans ((HB6.block i h5).trans (HB5.block i h4))⟩
    have HCL:=hid (show Calls Tryz.prog 67 #[.pointer (some ⟨w5.heap.size,0,none⟩),.slice q LR cq] wr (InsP w5.heap.size w5.heap.size q cq (out[j]'hjl) (lineP S (out[j]'hjl)) wr) from by rw [<- hLR];exact pline_any hpm hrow' (HWK.out _ (List.getElem_mem _)) hsi.ok hsi.st hsi.nn)
    have HSI:=hid hsi;have HCD:=hid hcd;have HBR:=hid hbr6;have HJ:=hid hj
    have HL:=hid (hl.trans (lines_step hjl))
    clear hcell hrow hrow' hLR hl4 hbr6 hb6 hpm hsi hcd hj hl hR
    go_wp2_with (go_at_call 67;(with_reducible refine HCL.out.mono ?_);rintro e w9 ⟨hb,⟨f1,hm,rfl⟩ | ⟨S',O',k',hm,rfl,hp'⟩⟩;(focus (clear c0;have HB9:=hid (HBR.out.trans hb);have HM9:=hid hm;clear hm hb;have HBP:=hid (show Below w.heap.size w w9 from HBW.out.trans ((HB6.out.trans HB9.out).mono HBW.out.size));have q1:=H15.out.bel (HB6.out.trans HB9.out);have q2:=H25.out.bel (HB6.out.trans HB9.out);have q3:=H35.out.bel (HB6.out.trans HB9.out);refine leaves_cons (f:=66) (args:=#[.pointer (some ⟨w.heap.size,0,none⟩),.pointer (some ⟨(w.heap.size+1),0,none⟩),.pointer (some ⟨(w.heap.size+1+1),0,none⟩)]) (by simp) (by simp [go_sem]) ?_;refine (pcatch_fault f1 _ _ _ _ _ _ _ _ _ _ _ _ q1 q2 q3 (by omega) (by omega) (by omega)).mono ?_;rintro e u' wz ⟨rfl,hset,z1,z2,z3,hbut⟩;have hbz:Below w.heap.size w wz:=HBP.out.trans (hbut.below HBP.out.size fun k hk=>by omega);show Leaves _ _ _ _ [] (settle u') wz;rw [hset];have y0:=z1.at 0 rfl;have y1:=z1.at 1 rfl;have y2:=z1.at 2 rfl;have y3:=z1.at 3 rfl;have y4:=z1.at 4 rfl;have y5:=z2.at 0 rfl;have y6:=z2.at 1 rfl;have y7:=z3.at 0 rfl;clear z1 z2 z3 hbut hset;simp [Leaves,results,Tryz.results28,go_sem,y0,y1,y2,y3,y4,y5,y6,y7];exact parse_out (parse_line HLR.out (by rw [HL.out,HM9.out])) hbz));have HB9:=hid (HBR.out.trans hb);have HM9:=hid hm;have HP9:=hid hp';clear hb hm hp' c0)
    go_roundw
    case rel=>exact ⟨j+1,S',O',_,_,_,k',hlt,by rw [wrap_next hlt HLE.out],by rw [HL.out,HM9.out],line_keep HSI.out HM9.out,line_cd HCD.out HM9.out,HP9.out,HB9.out⟩
    case measure=>(have h2:=HLE.out;rw [wrap_next hlt HLE.out];show LO - ((j+1:Nat):Int).toNat<LO - ((j:Nat):Int).toNat;omega)
   ·have hjj:j=LO:=by omega
    have HL:=hid (hl.trans (lines_done (by rw [HLO.out];omega)))
    subst hjj
    have t1:decide ((j:Int)<(j:Int))=false:=decide_eq_false (by omega)
    have c11:=hpm.rd.box.at 11 rfl
    have HSI:=hid hsi;have HCD:=hid hcd;have HBR:=hid (show Below w5.heap.size w6 wr from hb6);have HPR:=hid hpm
    clear hl hsi hcd hb6 hpm hj hlt
    by_cases hnn:S.inn=3
    ·skip
     have g:((S.inn:Int) == 3)=true:=by rw [hnn];rfl
     have hpg:=HPR.pg HSI.ok (by omega)
     obtain ⟨pa,ca,ha⟩:=hpg.1.slc
     obtain ⟨pb,cb,hb⟩:=hpg.2.1.slc
     obtain ⟨pc,cc,hc⟩:=hpg.2.2.1.slc
     obtain ⟨pd,cd,hd⟩:=hpg.2.2.2.slc
     have c0:=HPR.rd.box.at 0 rfl;have c1:=HPR.rd.box.at 1 rfl;have c2:=HPR.rd.box.at 2 rfl;have c3:=HPR.rd.box.at 3 rfl;have c4:=HPR.rd.box.at 4 rfl
     have HBB:=hid HPR.rd.box.lt
     rw [ha] at c1 hpg;rw [hb] at c2 hpg;rw [hc] at c3 hpg;rw [hd] at c4 hpg
     have HCB:=hid (show wr.cell? ⟨w5.heap.size,0,none⟩=some (.int .i64 S.p.width)/\wr.cell? ⟨w5.heap.size,1,none⟩=some (.slice pa S.p.chans.length ca)/\wr.cell? ⟨w5.heap.size,2,none⟩=some (.slice pb S.p.arrays.length cb)/\wr.cell? ⟨w5.heap.size,3,none⟩=some (.slice pc S.p.funcs.length cc)/\wr.cell? ⟨w5.heap.size,4,none⟩=some (.slice pd S.p.main.length cd) from ⟨c0,c1,c2,c3,c4⟩)
     have H1r:=hid (H15.bel (HB6.trans HBR.out));have H2r:=hid (H25.bel (HB6.trans HBR.out));have H3r:=hid (H35.bel (HB6.trans HBR.out));have H6r:=hid (H65.bel (HB6.trans HBR.out))
     have HPV:=hid (PgV.avoid (k:=w.heap.size+1+1) (H3r.dull (by simp)) (PgV.avoid (k:=w.heap.size+1) (H2r.dull (by simp)) (PgV.avoid (k:=w.heap.size) (H1r.dull (by simp)) (PgV.avoid (k:=b6) (H6r.dull (by simp)) hpg))))
     have HBX:=hid (show Below w.heap.size w wr from HBW.trans ((HB6.trans HBR.out).mono HBW.size))
     obtain ⟨⟨⟨q0,q1⟩,er⟩,hq⟩:∃ q,checkM S.p=q:=⟨_,rfl⟩
     have HQ:=hid hq
     have HCK:=hid (show Calls Tryz.prog 34 #[.agg #[.int .i64 S.p.width,.slice pa S.p.chans.length ca,.slice pb S.p.arrays.length cb,.slice pc S.p.funcs.length cc,.slice pd S.p.main.length cd]] wr (fun e w'=>e=.returned (.tuple #[.agg #[.int .i64 q0,.int .i64 q1],.int .i64 er])/\Below wr.heap.size wr w') from by have h:=check_k S.p _ _ _ _ wr (HE.below HBX.out) hpg HCD.pg;rw [hq] at h;exact h)
     have HNN:=hid hnn
     clear ha hb hc hd hpg hq hnn
     go_upto_region 13 with fail
     go_upto_region 14 with (go_at_call 34;(with_reducible refine HCK.out.mono ?_);rintro e w10 ⟨rfl,hb⟩;have HB10:=hid hb;have h6:=H6r.out.bel hb;have H610:=hid h6;have k0:=h6.at 0 rfl;have k1:=h6.at 1 rfl;have k2:=h6.fr 0;have k3:=h6.fr 1;clear hb h6 c0 c1 c2 c3 c4 c11)
     obtain ⟨w11,hw11⟩:∃ W,(w10.setCell ⟨b6,0,none⟩ (.int .i64 q0)).setCell ⟨b6,1,none⟩ (.int .i64 q1)=W:=⟨_,rfl⟩
     have h611:BxL 39 b6 [.int .i64 q0,.int .i64 q1] w11:=by rw [<- hw11];exact (H610.set 0 _).set 1 _
     have hbt11:But (fun k=>k=b6\/k=w.heap.size\/k=w.heap.size+1\/k=w.heap.size+1+1) wr w11:=by
      rw [<- hw11]
      refine But.setC ?_ _ (.inl (.inl rfl))
      refine But.setC ?_ _ (.inl (.inl rfl))
      exact But.of_below _ HB10.out
     have n1:w.heap.size<b6/\w.heap.size+1<b6/\w.heap.size+1+1<b6:=by have:=HS6.out;omega
     have H1x:=hid (show BxL 27 w.heap.size [.int .i64 0,.slice none 0 0,.slice none 0 0,.slice none 0 0,.slice none 0 0] w11 from by rw [<- hw11];exact ((H1r.bel HB10.out).ot (by omega)).ot (by omega))
     have H2x:=hid (show BxL 39 (w.heap.size+1) [.int .i64 0,.int .i64 0] w11 from by rw [<- hw11];exact ((H2r.bel HB10.out).ot (by omega)).ot (by omega))
     have H3x:=hid (show BxL 29 (w.heap.size+1+1) [.int .i64 0] w11 from by rw [<- hw11];exact ((H3r.bel HB10.out).ot (by omega)).ot (by omega))
     rw [hw11]
     clear hw11 k0 k1 k2 k3 n1
     have HBT11:=hid hbt11
     have k0:=h611.at 0 rfl;have k1:=h611.at 1 rfl
     clear h611 hbt11
     by_cases h0:er=0
     ·subst h0
      have HPE:=hid (parse_good HLR.out HL.out HNN.out (by rw [HQ.out]))
      go_upto_region 15 with (go_at_call 68;(with_reducible refine (pneed_any true (q0,q1) 0 _).mono ?_);rintro e w12 ⟨hb,⟨hc,rfl⟩ | ⟨hc,rfl⟩⟩;rotate_left;(focus (cases hc));have HB12:=hid hb;clear hb hc k0 k1)
      have hbt12:But (fun k=>k=b6\/k=w.heap.size\/k=w.heap.size+1\/k=w.heap.size+1+1) wr w12:=HBT11.trans (But.of_below _ HB12.out)
      have HBT12:=hid hbt12
      obtain ⟨y0,y1,y2,y3,y4⟩:=HCB.out
      have hk:∀ i v,wr.cell? ⟨w5.heap.size,i,none⟩=some v->w12.cell? ⟨w5.heap.size,i,none⟩=some v:=fun i v h=>(World.cell?_of_block (a:=⟨w5.heap.size,i,none⟩) (hbt12.block _ HBB.out (fun e=>by have:=HZ5.out;have:=HS6.out;dsimp only at e;omega))).trans h
      have c0:=hk _ _ y0;have c1:=hk _ _ y1;have c2:=hk _ _ y2;have c3:=hk _ _ y3;have c4:=hk _ _ y4
      have g1:=H1x.bel HB12.out;have g2:=H2x.bel HB12.out;have g3:=H3x.bel HB12.out
      have a0:=g1.at 0 rfl;have a1:=g1.at 1 rfl;have a2:=g1.at 2 rfl;have a3:=g1.at 3 rfl;have a4:=g1.at 4 rfl
      have b0:=g1.fr 0;have b1:=g1.fr 1;have b2:=g1.fr 2;have b3:=g1.fr 3;have b4:=g1.fr 4
      have hq1:BxL 27 w.heap.size [.int .i64 S.p.width,.slice pa S.p.chans.length ca,.slice pb S.p.arrays.length cb,.slice pc S.p.funcs.length cc,.slice pd S.p.main.length cd] (((((w12.setCell ⟨w.heap.size,0,none⟩ (.int .i64 S.p.width)).setCell ⟨w.heap.size,1,none⟩ (.slice pa S.p.chans.length ca)).setCell ⟨w.heap.size,2,none⟩ (.slice pb S.p.arrays.length cb)).setCell ⟨w.heap.size,3,none⟩ (.slice pc S.p.funcs.length cc)).setCell ⟨w.heap.size,4,none⟩ (.slice pd S.p.main.length cd)):=((((g1.set 0 _).set 1 _).set 2 _).set 3 _).set 4 _
      have hq2:BxL 39 (w.heap.size+1) [.int .i64 0,.int .i64 0] (((((w12.setCell ⟨w.heap.size,0,none⟩ (.int .i64 S.p.width)).setCell ⟨w.heap.size,1,none⟩ (.slice pa S.p.chans.length ca)).setCell ⟨w.heap.size,2,none⟩ (.slice pb S.p.arrays.length cb)).setCell ⟨w.heap.size,3,none⟩ (.slice pc S.p.funcs.length cc)).setCell ⟨w.heap.size,4,none⟩ (.slice pd S.p.main.length cd)):=((((g2.ot (by omega)).ot (by omega)).ot (by omega)).ot (by omega)).ot (by omega)
      have hq3:BxL 29 (w.heap.size+1+1) [.int .i64 0] (((((((w12.setCell ⟨w.heap.size,0,none⟩ (.int .i64 S.p.width)).setCell ⟨w.heap.size,1,none⟩ (.slice pa S.p.chans.length ca)).setCell ⟨w.heap.size,2,none⟩ (.slice pb S.p.arrays.length cb)).setCell ⟨w.heap.size,3,none⟩ (.slice pc S.p.funcs.length cc)).setCell ⟨w.heap.size,4,none⟩ (.slice pd S.p.main.length cd)).setCell ⟨w.heap.size+1,0,none⟩ (.int .i64 0)).setCell ⟨w.heap.size+1,1,none⟩ (.int .i64 0)):=((((((g3.ot (by omega)).ot (by omega)).ot (by omega)).ot (by omega)).ot (by omega)).ot (by omega)).ot (by omega)
      have HV1:=hid hq1;have HV2:=hid hq2;have HV3:=hid hq3
      have d0:=hq2.at 0 rfl;have d1:=hq2.at 1 rfl;have d2:=hq2.fr 0;have d3:=hq2.fr 1
      have e0:=hq3.at 0 rfl;have e1:=hq3.fr 0
      clear g1 g2 g3 hq1 hq2 hq3 hk hbt12 y0 y1 y2 y3 y4
      go_wp2_with fail
      refine leaves_cons (f:=66) (args:=#[.pointer (some ⟨w.heap.size,0,none⟩),.pointer (some ⟨(w.heap.size+1),0,none⟩),.pointer (some ⟨(w.heap.size+1+1),0,none⟩)]) (by simp) (by simp [go_sem]) ?_
      refine (pcatch_none _ _ _ _).mono ?_
      have z1:BxL 27 w.heap.size [.int .i64 S.p.width,.slice pa S.p.chans.length ca,.slice pb S.p.arrays.length cb,.slice pc S.p.funcs.length cc,.slice pd S.p.main.length cd] ((((((((w12.setCell ⟨w.heap.size,0,none⟩ (.int .i64 S.p.width)).setCell ⟨w.heap.size,1,none⟩ (.slice pa S.p.chans.length ca)).setCell ⟨w.heap.size,2,none⟩ (.slice pb S.p.arrays.length cb)).setCell ⟨w.heap.size,3,none⟩ (.slice pc S.p.funcs.length cc)).setCell ⟨w.heap.size,4,none⟩ (.slice pd S.p.main.length cd)).setCell ⟨w.heap.size+1,0,none⟩ (.int .i64 0)).setCell ⟨w.heap.size+1,1,none⟩ (.int .i64 0)).setCell ⟨w.heap.size+1+1,0,none⟩ (.int .i64 0)):=((HV1.ot (by omega)).ot (by omega)).ot (by omega)
      have z2:BxL 39 (w.heap.size+1) [.int .i64 0,.int .i64 0] ((((((((w12.setCell ⟨w.heap.size,0,none⟩ (.int .i64 S.p.width)).setCell ⟨w.heap.size,1,none⟩ (.slice pa S.p.chans.length ca)).setCell ⟨w.heap.size,2,none⟩ (.slice pb S.p.arrays.length cb)).setCell ⟨w.heap.size,3,none⟩ (.slice pc S.p.funcs.length cc)).setCell ⟨w.heap.size,4,none⟩ (.slice pd S.p.main.length cd)).setCell ⟨w.heap.size+1,0,none⟩ (.int .i64 0)).setCell ⟨w.heap.size+1,1,none⟩ (.int .i64 0)).setCell ⟨w.heap.size+1+1,0,none⟩ (.int .i64 0)):=((HV2.set 0 _).set 1 _).ot (by omega)
      have z3:BxL 29 (w.heap.size+1+1) [.int .i64 0] ((((((((w12.setCell ⟨w.heap.size,0,none⟩ (.int .i64 S.p.width)).setCell ⟨w.heap.size,1,none⟩ (.slice pa S.p.chans.length ca)).setCell ⟨w.heap.size,2,none⟩ (.slice pb S.p.arrays.length cb)).setCell ⟨w.heap.size,3,none⟩ (.slice pc S.p.funcs.length cc)).setCell ⟨w.heap.size,4,none⟩ (.slice pd S.p.main.length cd)).setCell ⟨w.heap.size+1,0,none⟩ (.int .i64 0)).setCell ⟨w.heap.size+1,1,none⟩ (.int .i64 0)).setCell ⟨w.heap.size+1+1,0,none⟩ (.int .i64 0)):=HV3.set 0 _
      have hbt:But (fun k=>k=b6\/k=w.heap.size\/k=w.heap.size+1\/k=w.heap.size+1+1) wr ((((((((w12.setCell ⟨w.heap.size,0,none⟩ (.int .i64 S.p.width)).setCell ⟨w.heap.size,1,none⟩ (.slice pa S.p.chans.length ca)).setCell ⟨w.heap.size,2,none⟩ (.slice pb S.p.arrays.length cb)).setCell ⟨w.heap.size,3,none⟩ (.slice pc S.p.funcs.length cc)).setCell ⟨w.heap.size,4,none⟩ (.slice pd S.p.main.length cd)).setCell ⟨w.heap.size+1,0,none⟩ (.int .i64 0)).setCell ⟨w.heap.size+1,1,none⟩ (.int .i64 0)).setCell ⟨w.heap.size+1+1,0,none⟩ (.int .i64 0)):=by
       refine But.setC ?_ _ (.inl (.inr (.inr (.inr rfl))))
       refine But.setC ?_ _ (.inl (.inr (.inr (.inl rfl))))
       refine But.setC ?_ _ (.inl (.inr (.inr (.inl rfl))))
       refine But.setC ?_ _ (.inl (.inr (.inl rfl)))
       refine But.setC ?_ _ (.inl (.inr (.inl rfl)))
       refine But.setC ?_ _ (.inl (.inr (.inl rfl)))
       refine But.setC ?_ _ (.inl (.inr (.inl rfl)))
       refine But.setC ?_ _ (.inl (.inr (.inl rfl)))
       exact HBT12.out
      generalize ((((((((w12.setCell ⟨w.heap.size,0,none⟩ (.int .i64 S.p.width)).setCell ⟨w.heap.size,1,none⟩ (.slice pa S.p.chans.length ca)).setCell ⟨w.heap.size,2,none⟩ (.slice pb S.p.arrays.length cb)).setCell ⟨w.heap.size,3,none⟩ (.slice pc S.p.funcs.length cc)).setCell ⟨w.heap.size,4,none⟩ (.slice pd S.p.main.length cd)).setCell ⟨w.heap.size+1,0,none⟩ (.int .i64 0)).setCell ⟨w.heap.size+1,1,none⟩ (.int .i64 0)).setCell ⟨w.heap.size+1+1,0,none⟩ (.int .i64 0))=wz at z1 z2 z3 hbt ⊢
      have y0:=z1.at 0 rfl;have y1:=z1.at 1 rfl;have y2:=z1.at 2 rfl;have y3:=z1.at 3 rfl;have y4:=z1.at 4 rfl
      have y5:=z2.at 0 rfl;have y6:=z2.at 1 rfl;have y7:=z3.at 0 rfl
      clear z1 z2 z3
      rintro e u' w'' ⟨rfl,rfl,rfl⟩
      have hbz:=HBX.trans (hbt.below HBX.size fun k hk=>by have:=HS6.out;omega)
      simp [Leaves,settle,results,Tryz.results28,go_sem,y0,y1,y2,y3,y4,y5,y6,y7]
      exact parse_fine HPE.out hbz (HPV.keep fun k hk=>⟨Nat.lt_of_lt_of_le hk.1.1.1.1 hbt.size,hbt.block k hk.1.1.1.1 fun e=>by
       rcases e with e | e | e | e
       ·exact hk.1.1.1.2 e
       ·exact hk.1.1.2 e
       ·exact hk.1.2 e
       ·exact hk.2 e⟩)
     ·have g2:(er == 0)=false:=by rw [beq_eq_false_iff_ne];exact h0
      have HPE:=hid (show parseE s=.error ((q0,q1),er) from by rw [<- HQ.out];exact parse_bad HLR.out HL.out HNN.out (by rw [HQ.out];exact h0))
      clear h0
      go_wp2_with fail
      (with_reducible refine (pneed_any false (q0,q1) er _).mono ?_)
      rintro e w12 ⟨hb,⟨hc,rfl⟩ | ⟨hc,rfl⟩⟩
      ·cases hc
      have HB12:=hid hb
      clear hb hc k0 k1
      have HBP:=hid (show Below w.heap.size w w12 from HBX.trans ((HBT11.below HBX.size (fun k hk=>by have:=HS6.out;omega):Below w.heap.size wr w11).trans (HB12.mono (Nat.le_trans HBX.size HBT11.size))))
      have r1:=H1x.bel HB12.out;have r2:=H2x.bel HB12.out;have r3:=H3x.bel HB12.out
      refine leaves_cons (f:=66) (args:=#[.pointer (some ⟨w.heap.size,0,none⟩),.pointer (some ⟨(w.heap.size+1),0,none⟩),.pointer (some ⟨(w.heap.size+1+1),0,none⟩)]) (by simp) (by simp [go_sem]) ?_
      refine (pcatch_fault ((q0,q1),er) _ _ _ _ _ _ _ _ _ _ _ _ r1 r2 r3 (by omega) (by omega) (by omega)).mono ?_
      rintro e u' wz ⟨rfl,hset,z1,z2,z3,hbut⟩
      have hbz:Below w.heap.size w wz:=HBP.trans (hbut.below HBP.size fun k hk=>by omega)
      show Leaves _ _ _ _ [] (settle u') wz
      rw [hset]
      have y0:=z1.at 0 rfl;have y1:=z1.at 1 rfl;have y2:=z1.at 2 rfl;have y3:=z1.at 3 rfl;have y4:=z1.at 4 rfl
      have y5:=z2.at 0 rfl;have y6:=z2.at 1 rfl;have y7:=z3.at 0 rfl
      clear z1 z2 z3 hbut hset
      simp [Leaves,results,Tryz.results28,go_sem,y0,y1,y2,y3,y4,y5,y6,y7]
      exact parse_out HPE.out hbz
    ·skip
     have g:((S.inn:Int) == 3)=false:=by rw [beq_eq_false_iff_ne];omega
     have HPE:=hid (parse_end HLR.out HL.out hnn)
     have hcn:s.count 10<=65536:=Nat.le_trans List.count_le_length HSL.out
     obtain ⟨cn,hcn'⟩:∃ n,s.count 10=n:=⟨_,rfl⟩
     obtain ⟨li,hli⟩:∃ z,Lib.lastIndexByte ⟨s.toArray⟩ 10=z:=⟨_,rfl⟩
     have hlb : -1<=li/\li<=65536:=by
      have h2:=HSL.out
      rw [<- hli]
      rcases Lib.lastIndexByte_spec ⟨s.toArray⟩ 10 with ⟨e,_⟩ | ⟨i,hi,e,_⟩
      ·rw [e];decide
      ·have hi':i<s.length:=hi
       rw [e];omega
     have HEO:=hid (show endOf s=(1+(cn:Int),(s.length:Int) - li) from by unfold endOf;rw [hcn',<- hli,col_end])
     have HCN:=hid (show ∀ W,Calls Tryz.prog 69 #[.string ⟨s.toArray⟩,.string ⟨#[10]⟩] W (fun e w'=>e=.returned (.int .i64 (cn:Int))/\w'=W) from fun W=>by have h:=Tryz.strings_Count_one ⟨s.toArray⟩ 10 W;rw [show Lib.countByte (ByteArray.mk s.toArray).data.toList 10=cn from hcn'] at h;exact h)
     have HLI:=hid (show ∀ W,Calls Tryz.prog 70 #[.string ⟨s.toArray⟩,.string ⟨#[10]⟩] W (fun e w'=>e=.returned (.int .i64 li)/\w'=W) from fun W=>by have h:=Tryz.strings_LastIndex_one ⟨s.toArray⟩ ⟨#[10]⟩ rfl (by have:=HSL.out;show s.length<_;omega) W;rw [show ((((ByteArray.mk #[10])[0]'(by decide)).toNat:Nat):Int)=10 from rfl,hli] at h;exact h)
     rw [hcn'] at hcn
     obtain ⟨SL,hSL⟩:∃ n,s.length=n:=⟨_,rfl⟩
     have hs6:=HSL.out
     rw [hSL] at HEO hs6
     obtain ⟨h1,h2⟩:=hlb
     clear hli hcn' hnn
     go_wp2_with (first | (go_at_call 69;(with_reducible refine (HCN.out _).mono ?_);rintro e w1 ⟨rfl,rfl⟩) | (go_at_call 70;(with_reducible refine (HLI.out _).mono ?_);rintro e w1 ⟨rfl,rfl⟩))
     (with_reducible refine (pneed_any false ((1+(cn:Int)),((SL:Int) - li)) 4 _).mono ?_)
     rintro e w9 ⟨hb,⟨hc,rfl⟩ | ⟨hc,rfl⟩⟩
     ·cases hc
     have hb19:Below w5.heap.size w6 w9:=HBR.trans (hb.mono (Nat.le_trans HB6.size HBR.size))
     have HBP:=hid (show Below w.heap.size w w9 from HBW.trans ((HB6.trans hb19).mono HBW.size))
     have q1:=H15.bel (HB6.trans hb19);have q2:=H25.bel (HB6.trans hb19);have q3:=H35.bel (HB6.trans hb19)
     have hpe:parseE s=.error ((1+(cn:Int),(SL:Int) - li),4):=by rw [HPE.out,HEO.out]
     clear hb hb19 hc h1 h2 hs6 hcn
     refine leaves_cons (f:=66) (args:=#[.pointer (some ⟨w.heap.size,0,none⟩),.pointer (some ⟨(w.heap.size+1),0,none⟩),.pointer (some ⟨(w.heap.size+1+1),0,none⟩)]) (by simp) (by simp [go_sem]) ?_
     refine (pcatch_fault ((1+(cn:Int),(SL:Int) - li),4) _ _ _ _ _ _ _ _ _ _ _ _ q1 q2 q3 (by omega) (by omega) (by omega)).mono ?_
     rintro e u' wz ⟨rfl,hset,z1,z2,z3,hbut⟩
     have hbz:Below w.heap.size w wz:=HBP.trans (hbut.below HBP.size fun k hk=>by omega)
     show Leaves _ _ _ _ [] (settle u') wz
     rw [hset]
     have y0:=z1.at 0 rfl;have y1:=z1.at 1 rfl;have y2:=z1.at 2 rfl;have y3:=z1.at 3 rfl;have y4:=z1.at 4 rfl
     have y5:=z2.at 0 rfl;have y6:=z2.at 1 rfl;have y7:=z3.at 0 rfl
     clear z1 z2 z3 hbut hset
     simp [Leaves,results,Tryz.results28,go_sem,y0,y1,y2,y3,y4,y5,y6,y7]
     exact parse_out hpe hbz
end Go.Proofs.YtoofbgoeipijcaaGreatDoor
