/-
 Policies: what is written.
-/
import Derived.Test.YtbijamcoibonkaaDoorCSPoC
import Derived.Test.YtbijamcoibonkaaDoorCB29
import Derived.Lib.ItoaLen
namespace Go.Proofs.YtbijamcoibonkaaDoor
set_option linter.unusedSimpArgs false
set_option linter.unusedVariables false
open Go.RowKit Go.Shelf
attribute [local go_sem] Oper.semAt_some
set_option maxRecDepth 100000 in
set_option maxHeartbeats 4000000 in
theorem put_po (b:Nat) (L ws:List Bs) (v:Value) (w:World) (hb:Lib.IsBuilderF 68 5 b b (Lib.byteCells (textT L)) w) (h:SlG kStr (·<w.heap.size) w v ws) (hlen:(textT (L++[jn ws])).length≤140737488355328) :
  Calls Tryd.prog 30 #[v,.pointer (some ⟨b,0,none⟩)] w fun e w'=>e = .returned (.tuple #[])∧Lib.IsBuilderF 68 5 b b (Lib.byteCells (textT (L++[jn ws]))) w'∧Below b w w'∧Lib.OthersKept 5 (some b) w w':=by
 obtain ⟨p,c,rfl⟩:=h.slc
 have HE:=hid (show textT (L++[jn ws])=textT L++(jn ws++[10]) from by simp [textT])
 rw [HE.out] at hlen ⊢
 rw [List.length_append,List.length_append] at hlen
 simp only [List.length_cons,List.length_nil] at hlen
 obtain ⟨J,hJ⟩:∃ J,jn ws=J:=⟨_,rfl⟩
 obtain ⟨O,hO⟩:∃ O,textT L=O:=⟨_,rfl⟩
 rw [hJ] at hlen
 rw [hO] at hlen hb
 rw [hJ,hO]
 have HJ:=hid hJ;have HL:=hid hlen;have HS:=hid h;have HB:=hid hb
 have hk1:¬ 9223372036854775807<J.length+1:=by omega
 clear hJ hlen h hb hO HE
 go_enter Tryd.func30,Tryd.ntmps30
 go_wp2_with (first
  | (go_at_call 32;(refine (joinS_any ws _ _ _ HS.out (fun _ h=>h) (by rw [HJ.out];have:=HL.out;omega)).mono ?_);rintro e w1 ⟨rfl,hb1⟩;rw [HJ.out];have HB1:=hid (isb_keep HB.out hb1);have HW1:=hid hb1;clear hb1)
  | (go_at_call 31;(refine (bwrite_any b O (J++[10]) _ _ (by rw [ByteArray.mk_append_mk]) HB1.out (by rw [List.length_append];have:=HL.out;simp only [List.length_cons,List.length_nil];omega)).mono ?_);rintro e w2 ⟨⟨v2,rfl⟩,hb2,hw2,hk2⟩;have HB2:=hid hb2;have HW2:=hid hw2;have HK2:=hid hk2;clear hb2 hw2 hk2))
 go_end0
 exact ⟨rfl,HB2.out,(HW1.out.mono (Nat.le_of_lt (isb_lt HB.out))).trans HW2.out,(others_below HW1.out).trans HK2.out⟩
def fLv (s:Bs):Bs:=jn [kLevel,s]
def fOd (p:Po) (o:Int × Int):Bs:=jn [kOrder,p.lv.getD o.1.toNat [],p.lv.getD o.2.toNat []]
def fBd (p:Po) (w:Bs) (b:Bs × Int):Bs:=jn [w,b.1,p.lv.getD b.2.toNat []]
def tl (p:Po):List Bs:=[jn [kMode,if p.sens then kSens else kInsens],jn [kSteps,Lib.itoa p.steps],jn [kPaths,Lib.itoa p.paths],jn [kNodes,Lib.itoa p.nodes],jn [kConf,Lib.itoa p.conf]]
def Q1 (p:Po):List Bs:=p.lv.map fLv
def Q2 (p:Po):List Bs:=Q1 p++p.od.map (fOd p)
def Q3 (p:Po):List Bs:=Q2 p++p.ch.map (fBd p kChan)
def Q4 (p:Po):List Bs:=Q3 p++p.st.map (fBd p kSite)
theorem lines_Q (p:Po):(linesPW p).map jn=Q4 p++tl p:=by
 simp only [linesPW,Q4,Q3,Q2,Q1,tl,List.map_append,List.map_map,List.map_cons,List.map_nil]
 rfl
theorem take_snoc {α β:Type} (f:α→β) (H:List β) (l:List α) (k:Nat) (hk:k<l.length):H++(l.take k).map f++[f l[k]]=H++(l.take (k+1)).map f:=by
 rw [show l.take (k+1)=l.take k++[l[k]] by simp,List.map_append,List.append_assoc];rfl
theorem pre_take {α β:Type} (f:α→β) (H:List β) (l:List α) (k:Nat):H++(l.take k).map f <+: H++l.map f:=by
 rw [List.prefix_append_right_inj]
 exact (List.take_prefix k l).map f
theorem textT_lenP:∀ (l:List Bs) (m:Nat),(∀ s ∈ l,s.length≤m)→(textT l).length≤l.length*(m+1)
 | [],m,_=>by simp [textT]
 | s :: r,m,h=>by
  have h1:=textT_lenP r m fun q hq=>h q (List.mem_cons_of_mem _ hq)
  have h2:=h s (by simp)
  have e:(textT (s :: r)).length=s.length+1+(textT r).length:=by simp [textT];omega
  rw [e,List.length_cons,Nat.add_mul]
  omega
theorem jn_lenP:∀ (l:List Bs) (m:Nat),(∀ s ∈ l,s.length≤m)→(jn l).length≤l.length*(m+1)
 | [],m,_=>by simp [jn,Lib.join]
 | s :: r,m,h=>by
  have hz:=jn_lenZ (s :: r) (by simp)
  have:lineZ (s :: r)≤(s :: r).length*(m+1):=by
   have:∀ q:List Bs,(∀ s ∈ q,s.length≤m)→lineZ q≤q.length*(m+1):=by
    intro q
    induction q with
    | nil=>intro _;simp [lineZ]
    | cons a b ih =>
     intro hq
     have h1:=hq a (by simp)
     have h2:=ih fun x hx=>hq x (List.mem_cons_of_mem _ hx)
     have e:lineZ (a :: b)=a.length+1+lineZ b:=by simp [lineZ]
     rw [e,List.length_cons,Nat.add_mul];omega
   exact this _ h
  omega
theorem pre_text {a b:List Bs} (h:a <+: b):(textT a).length≤(textT b).length:=by
 obtain ⟨t,rfl⟩:=h
 simp [textT]
theorem name_len {s:Bs} (h:nameB s=true):s.length≤32:=by
 unfold nameB at h
 simp only [Bool.and_eq_true,decide_eq_true_eq] at h
 exact h.1.1.2
theorem all_len (p:Po) (h:PoOk p):(textT (Q4 p++tl p)).length≤1000000:=by
 have hrg:=h.rg
 unfold rangeB at hrg
 simp only [Bool.and_eq_true,decide_eq_true_eq] at hrg
 obtain ⟨⟨⟨⟨r1,r2⟩,r3,r4⟩,r5,r6⟩,r7,r8⟩:=hrg
 have hl:(Q4 p++tl p).length≤1125:=by
  have h1:=h.len;have h2:=(lat_pairs h.lat).1;have h3:=h.ch.1;have h4:=h.st.1
  simp [Q4,Q3,Q2,Q1,tl];omega
 have hs:∀ s ∈ Q4 p++tl p,s.length≤200:=by
  rw [← lines_Q]
  intro s hs
  obtain ⟨l,hl,rfl⟩:=List.mem_map.1 hs
  clear hs
  have hw:l.length≤3∧∀ w ∈ l,w.length≤32:=by
   have hn:∀ b:Int,0≤b→b<(p.lv.length:Int)→(p.lv.getD b.toNat []).length≤32:=fun b h0 h1=>name_len (getD_name h.lv.1 h0 h1)
   have hi:∀ z:Int,0≤z→z≤1099511627776→(Lib.itoa z).length≤32:=fun z h0 h1=>Nat.le_trans (Lib.itoa_length_le z (by omega) (by omega)) (by omega)
   unfold linesPW at hl
   simp only [List.mem_append,List.mem_map,List.mem_cons,List.not_mem_nil,or_false] at hl
   have kk:∀ q ∈ ([kLevel,kOrder,kChan,kSite,kMode,kSteps,kPaths,kNodes,kConf,kSens,kInsens]:List Bs),q.length≤32:=by decide
   simp only [List.mem_cons,List.not_mem_nil,or_false,forall_eq_or_imp,forall_eq] at kk
   obtain ⟨q1,q2,q3,q4,q5,q6,q7,q8,q9,q10,q11⟩:=kk
   rcases hl with (((⟨q,hq,rfl⟩ | ⟨q,hq,rfl⟩) | ⟨q,hq,rfl⟩) | ⟨q,hq,rfl⟩) | rfl | rfl | rfl | rfl | rfl
   ·refine ⟨by simp,fun w hw=>?_⟩
    simp only [List.mem_cons,List.not_mem_nil,or_false] at hw
    rcases hw with rfl | rfl
    ·exact q1
    ·exact name_len (h.lv.1 _ hq)
   ·have:=(lat_pairs h.lat).2 q hq
    unfold pairB at this
    simp only [Bool.and_eq_true,decide_eq_true_eq] at this
    refine ⟨by simp,fun w hw=>?_⟩
    simp only [List.mem_cons,List.not_mem_nil,or_false] at hw
    rcases hw with rfl | rfl | rfl
    ·exact q2
    ·exact hn _ this.1.1 this.1.2
    ·exact hn _ this.2.1 this.2.2
   ·have:=h.ch.2.1 q hq
    refine ⟨by simp [lineW,lineL],fun w hw=>?_⟩
    simp only [lineW,lineL,List.mem_cons,List.not_mem_nil,or_false] at hw
    rcases hw with rfl | rfl | rfl
    ·exact q3
    ·exact name_len this.1
    ·exact hn _ this.2.1 this.2.2
   ·have:=h.st.2.1 q hq
    refine ⟨by simp [lineW,lineL],fun w hw=>?_⟩
    simp only [lineW,lineL,List.mem_cons,List.not_mem_nil,or_false] at hw
    rcases hw with rfl | rfl | rfl
    ·exact q4
    ·exact name_len this.1
    ·exact hn _ this.2.1 this.2.2
   ·refine ⟨by simp,fun w hw=>?_⟩
    simp only [List.mem_cons,List.not_mem_nil,or_false] at hw
    rcases hw with rfl | rfl
    ·exact q5
    ·split
     ·exact q10
     ·exact q11
   all_goals
    refine ⟨by simp,fun w hw=>?_⟩
    simp only [List.mem_cons,List.not_mem_nil,or_false] at hw
    rcases hw with rfl | rfl
    ·assumption
    ·exact hi _ (by omega) (by omega)
  have:=jn_lenP l 32 hw.2
  have h3:l.length*33≤3*33:=Nat.mul_le_mul_right _ hw.1
  omega
 have h1:=textT_lenP _ 200 hs
 have h2:(Q4 p++tl p).length*201≤1125*201:=Nat.mul_le_mul_right _ hl
 omega
theorem part_po {p:Po} (h:PoOk p) {a:List Bs} (ha:a <+: Q4 p++tl p):(textT a).length≤140737488355328:=by
 have:=pre_text ha;have:=all_len p h;omega
theorem preQ4 (p:Po):Q4 p <+: Q4 p++tl p:=List.prefix_append _ _
theorem preQ3 (p:Po):Q3 p <+: Q4 p++tl p:=(List.prefix_append _ _:Q3 p <+: Q4 p).trans (preQ4 p)
theorem preQ2 (p:Po):Q2 p <+: Q4 p++tl p:=(List.prefix_append _ _:Q2 p <+: Q3 p).trans (preQ3 p)
theorem preQ1 (p:Po):Q1 p <+: Q4 p++tl p:=(List.prefix_append _ _:Q1 p <+: Q2 p).trans (preQ2 p)
structure PoE (w:World):Prop where
 bru:Bru w
 pow:Lib.TabIs Tryd.prog w "internal/strconv.uint64pow10" .u64 Lib.pow10Tab
theorem PoE.keep {w w':World} (h:PoE w) (hb:Below w.heap.size w w'):PoE w':=⟨h.bru.keep hb,tab_below hb (Nat.le_refl _) h.pow⟩
set_option maxRecDepth 100000 in
set_option maxHeartbeats 4000000 in
theorem print_bad_po (p:Po) (a b c d:Value) (w:World) (hE:PoE w) (hp:PoV (·<w.heap.size) w a b c d p) (hs:PoS p) (hck:checkP p ≠ 0) :
  Calls Tryd.prog 12 #[.agg (poL a b c d p).toArray] w fun e w'=>e = .returned (.tuple #[.string ⟨(printP p).1.toArray⟩,.int .i64 (printP p).2])∧Below w.heap.size w w':=by
 have HX:=hid (BoxP.mk0 w a b c d p)
 obtain ⟨pa,ca,rfl⟩:=hp.1.slc
 obtain ⟨pb,cb,rfl⟩:=hp.2.1.slc
 obtain ⟨pc,cc,rfl⟩:=hp.2.2.1.slc
 obtain ⟨pd,cd,rfl⟩:=hp.2.2.2.slc
 have HCH:=hid (fun W (hW:Below w.heap.size w W)=>check_po p _ _ _ _ W (hp.keep fun q hq=>⟨Nat.lt_of_lt_of_le hq hW.size,hW.block q hq⟩) hs (hE.keep hW).bru)
 have HM:=hid (show printP p=([],checkP p) from if_pos hck)
 have hne:(checkP p != 0)=true:=by rw [bne_iff_ne];exact hck
 obtain ⟨ck,hckv⟩:∃ x,checkP p=x:=⟨_,rfl⟩
 rw [hckv] at HCH HM hne
 clear hckv hck hp hs hE
 go_enter Tryd.func12,Tryd.ntmps12
 go_wp2_with (go_at_call 7;(with_reducible refine (HCH.out _ HX.out.bel).mono ?_);rintro e w2 ⟨rfl,hb2⟩;have HB2:=hid (HX.out.bel.trans (hb2.mono HX.out.bel.size));clear hb2)
 go_ret2
 exact ⟨by rw [HM.out];rfl,HB2.out⟩
set_option maxRecDepth 100000 in
set_option maxHeartbeats 4000000 in
theorem print_good_po (p:Po) (va vb vc vd:Value) (w:World) (hE:PoE w) (hp:PoV (·<w.heap.size) w va vb vc vd p) (hs:PoS p) (hck:checkP p=0) :
  Calls Tryd.prog 12 #[.agg (poL va vb vc vd p).toArray] w fun e w'=>e = .returned (.tuple #[.string ⟨(printP p).1.toArray⟩,.int .i64 (printP p).2])∧Below w.heap.size w w':=by
 have HX0:=hid (BoxP.mk0 w va vb vc vd p)
 obtain ⟨pa,ca,rfl⟩:=hp.1.slc
 obtain ⟨pb,cb,rfl⟩:=hp.2.1.slc
 obtain ⟨pc,cc,rfl⟩:=hp.2.2.1.slc
 obtain ⟨pd,cd,rfl⟩:=hp.2.2.2.slc
 have HCH:=hid (fun W (hW:Below w.heap.size w W)=>check_po p _ _ _ _ W (hp.keep fun q hq=>⟨Nat.lt_of_lt_of_le hq hW.size,hW.block q hq⟩) hs (hE.keep hW).bru)
 rw [hck] at HCH
 have HP:=hid hp;have HE:=hid hE;have HCK:=hid hck;have HOK:=hid ((checkP_iff p).1 hck)
 obtain ⟨nl,hnl⟩:∃ n,p.lv.length=n:=⟨_,rfl⟩
 obtain ⟨no,hno⟩:∃ n,p.od.length=n:=⟨_,rfl⟩
 obtain ⟨nc,hnc⟩:∃ n,p.ch.length=n:=⟨_,rfl⟩
 obtain ⟨ns,hns⟩:∃ n,p.st.length=n:=⟨_,rfl⟩
 rw [hnl,hno,hnc,hns] at HP HX0 HCH ⊢
 have HNL:=hid hnl;have HNO:=hid hno;have HNC:=hid hnc;have HNS:=hid hns
 have hmf:∀ (fn:Fn) (first cap:Array Value) (w:World),(Instr.makeFunc fn first cap).run Tryd.prog w = .ok (.func fn first cap) w:=fun _ _ _ _=>rfl
 clear hp hE hs hck hnl hno hnc hns
 go_enter Tryd.func12,Tryd.ntmps12
 go_upto_region 5 with (go_at_call 7;(with_reducible refine (HCH.out _ HX0.out.bel).mono ?_);rintro e w2 ⟨rfl,hb2⟩;have HX2:=hid (HX0.out.on hb2);clear hb2)
 obtain ⟨b,hbn⟩:∃ b,w2.heap.size=b:=⟨_,rfl⟩
 rw [hbn]
 obtain ⟨w4,hw4⟩:∃ W,w2.alloc (.cells #[.pointer none,.slice none 0 0] 68)=W:=⟨_,rfl⟩
 have HBN:=hid (show w.heap.size<b from by rw [← hbn];exact HX2.out.box.lt)
 have HB4:=hid (show Below w.heap.size w w4 from by rw [← hw4];exact HX2.out.bel.alloc HX2.out.bel.size _)
 have HX4:=hid (show BxL 26 w.heap.size [.slice pa nl ca,.slice pb no cb,.slice pc nc cc,.slice pd ns cd,.bool p.sens,.int .i64 p.steps,.int .i64 p.paths,.int .i64 p.nodes,.int .i64 p.conf] w4 from by rw [← hw4];exact HX2.out.box.al _)
 have HI4:=hid (show Lib.IsBuilderF 68 5 b b (Lib.byteCells (textT ([]))) w4 from isb_new w4 _ _ _ (by
  have:=BxL.new 68 w2 [.pointer none,.slice none 0 0]
  rw [hbn,hw4] at this
  exact this))
 rw [hw4]
 clear hw4 hbn HX2 HX0
 have HX:=hid (show ∀ W,Below b w4 W→BxL 26 w.heap.size [.slice pa nl ca,.slice pb no cb,.slice pc nc cc,.slice pd ns cd,.bool p.sens,.int .i64 p.steps,.int .i64 p.paths,.int .i64 p.nodes,.int .i64 p.conf] W from fun W h=>HX4.out.keep (h.block _ HBN.out))
 have HBW:=hid (show ∀ W,Below b w4 W→Below w.heap.size w W from fun W h=>HB4.out.trans (h.mono (Nat.le_of_lt HBN.out)))
 have HEW:=hid (show ∀ W,Below b w4 W→Lib.TabIs Tryd.prog W "internal/strconv.uint64pow10" .u64 Lib.pow10Tab from fun W h=>(HE.out.keep (HBW.out W h)).pow)
 have m0:=(HX.out w4 (Below.refl _ _)).at 0 rfl
 go_wp2_with fail
 clear m0
 go_loopw [25] (fun iv wr=>∃ k:Nat,k≤nl∧iv = .int .i64 (k:Int)∧(Lib.IsBuilderF 68 5 b b (Lib.byteCells (textT (([]:List Bs)++(p.lv.take k).map fLv))) wr∧Below b w4 wr)) (fun iv _=>nl - (intOf iv).toNat)
 case atStart=>exact ⟨0,Nat.zero_le _,rfl,by rw [List.take_zero,List.map_nil,List.append_nil];exact HI4.out,Below.refl _ _⟩
 case round =>
  obtain ⟨k,hk,rfl,hi,hb⟩:=hrel
  by_cases hlt0:k<nl
  ·have t1:decide ((k:Int)<(nl:Int))=true:=decide_eq_true (by omega)
   have hlt:k<p.lv.length:=by rw [HNL.out];exact hlt0
   have hkb:(k:Int)≤2000:=by have:=HOK.out.len;have:=HNL.out;omega
   obtain ⟨b1,o1,rfl,hR,hcells⟩:=str_at HP.out.1 (by omega:0<p.lv.length)
   have c0:=((HBW.out wr hb).cell (p:=⟨b1,o1+k,none⟩) hR).trans (hcells k hlt)
   have HSN:=hid (take_snoc fLv (([]:List Bs)) p.lv k hlt)
   have HPRE:=hid (show ([]:List Bs)++(p.lv.take k).map fLv++[fLv p.lv[k]] <+: Q4 p++tl p from by rw [take_snoc _ _ _ _ hlt];exact (pre_take _ _ _ _).trans (preQ1 p))
   have HMEM:=hid (show p.lv[k] ∈ p.lv from List.getElem_mem _)
   obtain ⟨Lk,hLk⟩:∃ L,([]:List Bs)++(p.lv.take k).map fLv=L:=⟨_,rfl⟩
   rw [hLk] at HSN HPRE hi
   have HIr:=hid hi;have HBr:=hid hb
   clear hi hb hLk hcells hR
   generalize p.lv[k]=x at *
   clear hlt
   go_wp2_with (go_at_call 30;(refine (put_po b (Lk) [kLevel,x] _ _ (isb_keep HIr.out ((Below.refl wr.heap.size wr).alloc (Nat.le_refl _) _)) ((GA.litS (B:=wr.heap.size) wr 9 [kLevel,x] (by simp) (by simp) (Nat.le_refl _)).sl (by simp)) (part_po HOK.out (HPRE.out))).mono ?_);rintro e w7 ⟨rfl,hi2,hb2,hk2⟩;have HI7:=hid hi2;have HB7:=hid ((HBr.out.alloc (Nat.le_of_lt (isb_lt HIr.out)) _).trans hb2);clear hi2 hb2 hk2)
   go_roundw
   case rel=>exact ⟨k+1,by omega,by go_num,by rw [← HSN.out];exact HI7.out,HB7.out⟩
   case measure=>simp [intOf];omega
  ·have eqn:nl=k:=by omega
   subst eqn
   have t1:decide ((nl:Int)<(nl:Int))=false:=decide_eq_false (by omega)
   rw [List.take_of_length_le (by rw [HNL.out];omega)] at hi
   have HIe:=hid hi;have HBe:=hid hb
   clear hi hb hlt0 hk
   have HI8:=HIe;have HB8:=HBe
   have m1:=(HX.out wr HBe.out).at 1 rfl
   go_wp2_with fail
   clear m1
   generalize wr=w8 at *
   go_loopw [37] (fun iv wr=>∃ k:Nat,k≤no∧iv = .int .i64 (k:Int)∧(Lib.IsBuilderF 68 5 b b (Lib.byteCells (textT (Q1 p++(p.od.take k).map (fOd p)))) wr∧Below b w4 wr)) (fun iv _=>no - (intOf iv).toNat)
   case atStart=>exact ⟨0,Nat.zero_le _,rfl,by rw [List.take_zero,List.map_nil,List.append_nil];exact HI8.out,HB8.out⟩
   case round =>
    obtain ⟨k,hk,rfl,hi,hb⟩:=hrel
    by_cases hlt0:k<no
    ·have t2:decide ((k:Int)<(no:Int))=true:=decide_eq_true (by omega)
     have hlt:k<p.od.length:=by rw [HNO.out];exact hlt0
     have hkb:(k:Int)≤2000:=by have:=(lat_pairs HOK.out.lat).1;have:=HNO.out;omega
     obtain ⟨b1,o1,rfl,hR,hcells⟩:=pair_at HP.out.2.1 (by omega:0<p.od.length)
     have c0:=((HBW.out wr hb).cell (p:=⟨b1,o1+k*2,none⟩) hR).trans (hcells k hlt).1
     have c1:=((HBW.out wr hb).cell (p:=⟨b1,o1+k*2+1,none⟩) hR).trans (hcells k hlt).2
     have HSN:=hid (take_snoc (fOd p) (Q1 p) p.od k hlt)
     have HPRE:=hid (show Q1 p++(p.od.take k).map (fOd p)++[(fOd p) p.od[k]] <+: Q4 p++tl p from by rw [take_snoc _ _ _ _ hlt];exact (pre_take _ _ _ _).trans (preQ2 p))
     have HMEM:=hid (show p.od[k] ∈ p.od from List.getElem_mem _)
     obtain ⟨Lk,hLk⟩:∃ L,Q1 p++(p.od.take k).map (fOd p)=L:=⟨_,rfl⟩
     rw [hLk] at HSN HPRE hi
     have HIr:=hid hi;have HBr:=hid hb
     clear hi hb hLk hcells hR
     generalize p.od[k]=x at *
     clear hlt
     obtain ⟨x1,x2⟩:=x
     dsimp only at c0 c1
     have HX2:=hid (pair_true ((lat_pairs HOK.out.lat).2 _ HMEM.out))
     obtain ⟨A,rfl⟩:∃ A:Nat,x1=(A:Int):=⟨x1.toNat,by have:=HX2.out.1;dsimp only at this;omega⟩
     obtain ⟨C,rfl⟩:∃ C:Nat,x2=(C:Int):=⟨x2.toNat,by have:=HX2.out.2.2.1;dsimp only at this;omega⟩
     have hA:A<nl:=by have:=HX2.out.2.1;dsimp only at this;rw [HNL.out] at this;omega
     have hC:C<nl:=by have:=HX2.out.2.2.2;dsimp only at this;rw [HNL.out] at this;omega
     have hAi:(A:Int)<(nl:Int):=by omega
     have hCi:(C:Int)<(nl:Int):=by omega
     obtain ⟨lb,lo,rfl,hRl,hlv⟩:=str_at HP.out.1 (by rw [HNL.out];omega:0<p.lv.length)
     have HRL:=hid hRl
     have cA:=hlv A (by rw [HNL.out];exact hA)
     have cC:=hlv C (by rw [HNL.out];exact hC)
     have HGA:=hid (show p.lv.getD A []=p.lv[A]'(by rw [HNL.out];exact hA) from by rw [List.getD_eq_getElem?_getD,List.getElem?_eq_getElem (by rw [HNL.out];exact hA)];rfl)
     have HGC:=hid (show p.lv.getD C []=p.lv[C]'(by rw [HNL.out];exact hC) from by rw [List.getD_eq_getElem?_getD,List.getElem?_eq_getElem (by rw [HNL.out];exact hC)];rfl)
     obtain ⟨sA,hsA⟩:∃ s,p.lv[A]'(by rw [HNL.out];exact hA)=s:=⟨_,rfl⟩
     obtain ⟨sC,hsC⟩:∃ s,p.lv[C]'(by rw [HNL.out];exact hC)=s:=⟨_,rfl⟩
     rw [hsA] at cA HGA
     rw [hsC] at cC HGC
     have HLA:=hid (fun W (h:Below b w4 W)=>((HBW.out W h).cell (p:=⟨lb,lo+A,none⟩) HRL.out).trans cA)
     have HLC:=hid (fun W (h:Below b w4 W)=>((HBW.out W h).cell (p:=⟨lb,lo+C,none⟩) HRL.out).trans cC)
     clear cA cC
     have HJN:=hid (show jn [kOrder,sA,sC]=fOd p ((A:Int),(C:Int)) from by show _=jn [kOrder,p.lv.getD (A:Int).toNat [],p.lv.getD (C:Int).toNat []];rw [Int.toNat_natCast,Int.toNat_natCast,HGA.out,HGC.out])
     clear hlv hRl hsA hsC
     go_upto_region 14 with fail
     obtain ⟨p9,hp9⟩:∃ p9,wr.heap.size=p9:=⟨_,rfl⟩
     obtain ⟨wo,hwo⟩:∃ W,wr.alloc (.cells #[.int .i64 (A:Int),.int .i64 (C:Int)] 58)=W:=⟨_,rfl⟩
     rw [hwo,hp9]
     have hbx:BxL 58 p9 [.int .i64 (A:Int),.int .i64 (C:Int)] wo:=by rw [← hwo,← hp9];exact BxL.new _ _ _
     have hbo:Below wr.heap.size wr wo:=by rw [← hwo];exact (Below.refl _ _).alloc (Nat.le_refl _) _
     have HIo:=hid (isb_keep HIr.out hbo)
     have HBo:=hid (show Below b w4 wo from HBr.out.trans (hbo.mono (Nat.le_of_lt (isb_lt HIr.out))))
     have HBX:=hid hbx
     have HNE:=hid (show p9 ≠ b from by rw [← hp9];have:=isb_lt HIr.out;omega)
     have HSF:=hid (fun W (h:Below b w4 W) (hx:BxL 58 p9 [.int .i64 (A:Int),.int .i64 (C:Int)] W)=>show (fun W:World=>W.cell? ⟨w.heap.size,0,none⟩=some (.slice (some ⟨lb,lo,none⟩) nl ca)∧W.cell? ⟨p9,0,none⟩=some (.int .i64 (A:Int))∧W.cell? ⟨p9,1,none⟩=some (.int .i64 (C:Int))∧W.cell? ⟨lb,lo+A,none⟩=some (.string ⟨sA.toArray⟩)∧W.cell? ⟨lb,lo+C,none⟩=some (.string ⟨sC.toArray⟩)) W from ⟨(HX.out W h).at 0 rfl,hx.at 0 rfl,hx.at 1 rfl,HLA.out W h,HLC.out W h⟩)
     have hS:(fun W:World=>W.cell? ⟨w.heap.size,0,none⟩=some (.slice (some ⟨lb,lo,none⟩) nl ca)∧W.cell? ⟨p9,0,none⟩=some (.int .i64 (A:Int))∧W.cell? ⟨p9,1,none⟩=some (.int .i64 (C:Int))∧W.cell? ⟨lb,lo+A,none⟩=some (.string ⟨sA.toArray⟩)∧W.cell? ⟨lb,lo+C,none⟩=some (.string ⟨sC.toArray⟩)) wo.drew:=HSF.out wo HBo.out hbx
     clear hwo hbx hbo c0 c1 hp9
     have hFa:=fT
     refine rgN (fun W:World=>W.cell? ⟨w.heap.size,0,none⟩=some (.slice (some ⟨lb,lo,none⟩) nl ca)∧W.cell? ⟨p9,0,none⟩=some (.int .i64 (A:Int))∧W.cell? ⟨p9,1,none⟩=some (.int .i64 (C:Int))∧W.cell? ⟨lb,lo+A,none⟩=some (.string ⟨sA.toArray⟩)∧W.cell? ⟨lb,lo+C,none⟩=some (.string ⟨sC.toArray⟩)) 15 (by kernel_rfl) ?_
     simp only [List.size_toArray,List.length_cons,List.length_nil,Nat.reduceAdd]
     iterate 13 (refine wpHJ_nx (v:=?_) 15 rfl rfl (by kernel_rfl) nE hS ?_ ?_;rotate_left;(focus refine Or.inl ⟨by rfl,?_⟩;rintro w' ⟨s0,s1,s2,s3,s4⟩;go_simp;try rfl);simp only [Act.put,actP,actQ])
     refine wpHJ_only 13 (by kernel_rfl) rfl (fun K hK=>?_)
     go_simp
     have HIs:=hid (show Lib.IsBuilderF 68 5 b b (Lib.byteCells (textT (Lk))) wo.drew from HIo.out)
     have HBs:=hid (show Below b w4 wo.drew from HBo.out.trans ((Below.refl wo.heap.size wo).drew.mono (Nat.le_of_lt (isb_lt HIo.out))))
     have hS2:=HSF.out _ (HBs.out.alloc (Nat.le_of_lt (isb_lt HIs.out)) _) ((show BxL 58 p9 [.int .i64 (A:Int),.int .i64 (C:Int)] wo.drew from HBX.out).al (.cells #[.string ⟨(kOrder).toArray⟩,.string ⟨sA.toArray⟩,.string ⟨sC.toArray⟩] 9))
     refine hK _ _ (.inr (.inr hS2)) ?_
     clear hK K
     refine wpHJ_only 14 (by kernel_rfl) rfl (fun K hK=>?_)
     go_simp
     (refine (callsIn_wide.2 (put_po b Lk [kOrder,sA,sC] _ _ (isb_keep HIs.out ((Below.refl wo.drew.heap.size wo.drew).alloc (Nat.le_refl _) _)) ((GA.litS (B:=wo.drew.heap.size) wo.drew 9 [kOrder,sA,sC] (by simp) (by simp) (Nat.le_refl _)).sl (by simp)) (by rw [HJN.out];exact part_po HOK.out (HPRE.out)))).mono ?_)
     rintro e w7 ⟨rfl,hi2,hb2,hk2⟩
     rw [HJN.out] at hi2
     have HI7:=hid hi2
     have HB7:=hid ((HBs.out.alloc (Nat.le_of_lt (isb_lt HIs.out)) _).trans hb2)
     have hS3:=HSF.out _ HB7.out (kept_box hk2 ((show BxL 58 p9 [.int .i64 (A:Int),.int .i64 (C:Int)] wo.drew from HBX.out).al (.cells #[.string ⟨(kOrder).toArray⟩,.string ⟨sA.toArray⟩,.string ⟨sC.toArray⟩] 9)) HNE.out (by decide))
     clear hi2 hb2 hk2
     refine hK _ _ (.inr (.inr hS3)) ?_
     clear hK K
     refine wpHJ_done (by kernel_rfl) ?_ _
     simp only [onlyN,Exit.then]
     clear hFa
     clear hS hS2 hS3
     go_wp2_with fail
     go_roundw
     case rel=>exact ⟨k+1,by omega,by go_num,by rw [← HSN.out];exact HI7.out,HB7.out⟩
     case measure=>simp [intOf];omega
    ·have eqn:no=k:=by omega
     subst eqn
     have t2:decide ((no:Int)<(no:Int))=false:=decide_eq_false (by omega)
     rw [List.take_of_length_le (by rw [HNO.out];omega)] at hi
     have HIe:=hid hi;have HBe:=hid hb
     clear hi hb hlt0 hk
     have HI8:=HIe;have HB8:=HBe
     have m2:=(HX.out wr HBe.out).at 2 rfl
     go_wp2_with fail
     clear m2
     generalize wr=w8 at *
     go_loopw [60] (fun iv wr=>∃ k:Nat,k≤nc∧iv = .int .i64 (k:Int)∧(Lib.IsBuilderF 68 5 b b (Lib.byteCells (textT (Q2 p++(p.ch.take k).map (fBd p kChan)))) wr∧Below b w4 wr)) (fun iv _=>nc - (intOf iv).toNat)
     case atStart=>exact ⟨0,Nat.zero_le _,rfl,by rw [List.take_zero,List.map_nil,List.append_nil];exact HI8.out,HB8.out⟩
     case round =>
      obtain ⟨k,hk,rfl,hi,hb⟩:=hrel
      by_cases hlt0:k<nc
      ·have t3:decide ((k:Int)<(nc:Int))=true:=decide_eq_true (by omega)
       have hlt:k<p.ch.length:=by rw [HNC.out];exact hlt0
       have hkb:(k:Int)≤2000:=by have:=HOK.out.ch.1;have:=HNC.out;omega
       obtain ⟨b1,o1,rfl,hR,hcells⟩:=bind_at HP.out.2.2.1 (by omega:0<p.ch.length)
       have c0:=((HBW.out wr hb).cell (p:=⟨b1,o1+k*2,none⟩) hR).trans (hcells k hlt).1
       have c1:=((HBW.out wr hb).cell (p:=⟨b1,o1+k*2+1,none⟩) hR).trans (hcells k hlt).2
       have HSN:=hid (take_snoc (fBd p kChan) (Q2 p) p.ch k hlt)
       have HPRE:=hid (show Q2 p++(p.ch.take k).map (fBd p kChan)++[(fBd p kChan) p.ch[k]] <+: Q4 p++tl p from by rw [take_snoc _ _ _ _ hlt];exact (pre_take _ _ _ _).trans (preQ3 p))
       have HMEM:=hid (show p.ch[k] ∈ p.ch from List.getElem_mem _)
       obtain ⟨Lk,hLk⟩:∃ L,Q2 p++(p.ch.take k).map (fBd p kChan)=L:=⟨_,rfl⟩
       rw [hLk] at HSN HPRE hi
       have HIr:=hid hi;have HBr:=hid hb
       clear hi hb hLk hcells hR
       generalize p.ch[k]=x at *
       clear hlt
       obtain ⟨x1,x2⟩:=x
       dsimp only at c0 c1
       have HX2:=hid ((HOK.out.ch.2.1 _ HMEM.out).2)
       obtain ⟨A,rfl⟩:∃ A:Nat,x2=(A:Int):=⟨x2.toNat,by have:=HX2.out.1;dsimp only at this;omega⟩
       have hA:A<nl:=by have:=HX2.out.2;dsimp only at this;rw [HNL.out] at this;omega
       have hAi:(A:Int)<(nl:Int):=by omega
       have hAi0:(0:Int)≤(A:Int):=by omega
       obtain ⟨lb,lo,rfl,hRl,hlv⟩:=str_at HP.out.1 (by rw [HNL.out];omega:0<p.lv.length)
       have HLA0:=hid (hlv A (by rw [HNL.out];exact hA))
       have HRL:=hid hRl
       have HGD:=hid (show p.lv.getD A []=p.lv[A]'(by rw [HNL.out];exact hA) from by rw [List.getD_eq_getElem?_getD,List.getElem?_eq_getElem (by rw [HNL.out];exact hA)];rfl)
       generalize p.lv[A]'(by rw [HNL.out];exact hA)=sA at *
       have HJN:=hid (show jn [kChan,x1,sA]=fBd p kChan (x1,(A:Int)) from by show _=jn [kChan,x1,p.lv.getD (A:Int).toNat []];rw [Int.toNat_natCast,HGD.out])
       have HLA:=hid (fun W (h:Below b w4 W)=>((HBW.out W h).cell (p:=⟨lb,lo+A,none⟩) HRL.out).trans HLA0.out)
       clear hlv hRl
       go_upto_region 19 with fail
       obtain ⟨p9,hp9⟩:∃ p9,wr.heap.size=p9:=⟨_,rfl⟩
       obtain ⟨wo,hwo⟩:∃ W,wr.alloc (.cells #[.string ⟨x1.toArray⟩,.int .i64 (A:Int)] 31)=W:=⟨_,rfl⟩
       rw [hwo,hp9]
       have hbx:BxL 31 p9 [.string ⟨x1.toArray⟩,.int .i64 (A:Int)] wo:=by rw [← hwo,← hp9];exact BxL.new _ _ _
       have hbo:Below wr.heap.size wr wo:=by rw [← hwo];exact (Below.refl _ _).alloc (Nat.le_refl _) _
       have HIo:=hid (isb_keep HIr.out hbo)
       have HBo:=hid (show Below b w4 wo from HBr.out.trans (hbo.mono (Nat.le_of_lt (isb_lt HIr.out))))
       have HBX:=hid hbx
       have HNE:=hid (show p9 ≠ b from by rw [← hp9];have:=isb_lt HIr.out;omega)
       have HSF:=hid (fun W (h:Below b w4 W) (hx:BxL 31 p9 [.string ⟨x1.toArray⟩,.int .i64 (A:Int)] W)=>show (fun W:World=>W.cell? ⟨w.heap.size,0,none⟩=some (.slice (some ⟨lb,lo,none⟩) nl ca)∧W.cell? ⟨p9,0,none⟩=some (.string ⟨x1.toArray⟩)∧W.cell? ⟨p9,1,none⟩=some (.int .i64 (A:Int))∧W.cell? ⟨lb,lo+A,none⟩=some (.string ⟨sA.toArray⟩)) W from ⟨(HX.out W h).at 0 rfl,hx.at 0 rfl,hx.at 1 rfl,HLA.out W h⟩)
       have hS:(fun W:World=>W.cell? ⟨w.heap.size,0,none⟩=some (.slice (some ⟨lb,lo,none⟩) nl ca)∧W.cell? ⟨p9,0,none⟩=some (.string ⟨x1.toArray⟩)∧W.cell? ⟨p9,1,none⟩=some (.int .i64 (A:Int))∧W.cell? ⟨lb,lo+A,none⟩=some (.string ⟨sA.toArray⟩)) wo.drew:=HSF.out wo HBo.out hbx
       clear hwo hbx hbo c0 c1 hp9
       have hFa:=fT
       refine rgN (fun W:World=>W.cell? ⟨w.heap.size,0,none⟩=some (.slice (some ⟨lb,lo,none⟩) nl ca)∧W.cell? ⟨p9,0,none⟩=some (.string ⟨x1.toArray⟩)∧W.cell? ⟨p9,1,none⟩=some (.int .i64 (A:Int))∧W.cell? ⟨lb,lo+A,none⟩=some (.string ⟨sA.toArray⟩)) 11 (by kernel_rfl) ?_
       simp only [List.size_toArray,List.length_cons,List.length_nil,Nat.reduceAdd]
       iterate 9 (refine wpHJ_nx (v:=?_) 11 rfl rfl (by kernel_rfl) nE hS ?_ ?_;rotate_left;(focus refine Or.inl ⟨by rfl,?_⟩;rintro w' ⟨s0,s1,s2,s3⟩;go_simp;try rfl);simp only [Act.put,actP,actQ])
       refine wpHJ_only 9 (by kernel_rfl) rfl (fun K hK=>?_)
       go_simp
       have HIs:=hid (show Lib.IsBuilderF 68 5 b b (Lib.byteCells (textT (Lk))) wo.drew from HIo.out)
       have HBs:=hid (show Below b w4 wo.drew from HBo.out.trans ((Below.refl wo.heap.size wo).drew.mono (Nat.le_of_lt (isb_lt HIo.out))))
       have hS2:=HSF.out _ (HBs.out.alloc (Nat.le_of_lt (isb_lt HIs.out)) _) ((show BxL 31 p9 [.string ⟨x1.toArray⟩,.int .i64 (A:Int)] wo.drew from HBX.out).al (.cells #[.string ⟨(kChan).toArray⟩,.string ⟨x1.toArray⟩,.string ⟨sA.toArray⟩] 9))
       refine hK _ _ (.inr (.inr hS2)) ?_
       clear hK K
       refine wpHJ_only 10 (by kernel_rfl) rfl (fun K hK=>?_)
       go_simp
       (refine (callsIn_wide.2 (put_po b Lk [kChan,x1,sA] _ _ (isb_keep HIs.out ((Below.refl wo.drew.heap.size wo.drew).alloc (Nat.le_refl _) _)) ((GA.litS (B:=wo.drew.heap.size) wo.drew 9 [kChan,x1,sA] (by simp) (by simp) (Nat.le_refl _)).sl (by simp)) (by rw [HJN.out];exact part_po HOK.out (HPRE.out)))).mono ?_)
       rintro e w7 ⟨rfl,hi2,hb2,hk2⟩
       rw [HJN.out] at hi2
       have HI7:=hid hi2
       have HB7:=hid ((HBs.out.alloc (Nat.le_of_lt (isb_lt HIs.out)) _).trans hb2)
       have hS3:=HSF.out _ HB7.out (kept_box hk2 ((show BxL 31 p9 [.string ⟨x1.toArray⟩,.int .i64 (A:Int)] wo.drew from HBX.out).al (.cells #[.string ⟨(kChan).toArray⟩,.string ⟨x1.toArray⟩,.string ⟨sA.toArray⟩] 9)) HNE.out (by decide))
       clear hi2 hb2 hk2
       refine hK _ _ (.inr (.inr hS3)) ?_
       clear hK K
       refine wpHJ_done (by kernel_rfl) ?_ _
       simp only [onlyN,Exit.then]
       clear hFa
       clear hS hS2 hS3
       go_wp2_with fail
       go_roundw
       case rel=>exact ⟨k+1,by omega,by go_num,by rw [← HSN.out];exact HI7.out,HB7.out⟩
       case measure=>simp [intOf];omega
      ·have eqn:nc=k:=by omega
       subst eqn
       have t3:decide ((nc:Int)<(nc:Int))=false:=decide_eq_false (by omega)
       rw [List.take_of_length_le (by rw [HNC.out];omega)] at hi
       have HIe:=hid hi;have HBe:=hid hb
       clear hi hb hlt0 hk
       have HI8:=HIe;have HB8:=HBe
       have m3:=(HX.out wr HBe.out).at 3 rfl
       go_wp2_with fail
       clear m3
       generalize wr=w8 at *
       go_loopw [79] (fun iv wr=>∃ k:Nat,k≤ns∧iv = .int .i64 (k:Int)∧(Lib.IsBuilderF 68 5 b b (Lib.byteCells (textT (Q3 p++(p.st.take k).map (fBd p kSite)))) wr∧Below b w4 wr)) (fun iv _=>ns - (intOf iv).toNat)
       case atStart=>exact ⟨0,Nat.zero_le _,rfl,by rw [List.take_zero,List.map_nil,List.append_nil];exact HI8.out,HB8.out⟩
       case round =>
        obtain ⟨k,hk,rfl,hi,hb⟩:=hrel
        by_cases hlt0:k<ns
        ·have t4:decide ((k:Int)<(ns:Int))=true:=decide_eq_true (by omega)
         have hlt:k<p.st.length:=by rw [HNS.out];exact hlt0
         have hkb:(k:Int)≤2000:=by have:=HOK.out.st.1;have:=HNS.out;omega
         obtain ⟨b1,o1,rfl,hR,hcells⟩:=bind_at HP.out.2.2.2 (by omega:0<p.st.length)
         have c0:=((HBW.out wr hb).cell (p:=⟨b1,o1+k*2,none⟩) hR).trans (hcells k hlt).1
         have c1:=((HBW.out wr hb).cell (p:=⟨b1,o1+k*2+1,none⟩) hR).trans (hcells k hlt).2
         have HSN:=hid (take_snoc (fBd p kSite) (Q3 p) p.st k hlt)
         have HPRE:=hid (show Q3 p++(p.st.take k).map (fBd p kSite)++[(fBd p kSite) p.st[k]] <+: Q4 p++tl p from by rw [take_snoc _ _ _ _ hlt];exact (pre_take _ _ _ _).trans (preQ4 p))
         have HMEM:=hid (show p.st[k] ∈ p.st from List.getElem_mem _)
         obtain ⟨Lk,hLk⟩:∃ L,Q3 p++(p.st.take k).map (fBd p kSite)=L:=⟨_,rfl⟩
         rw [hLk] at HSN HPRE hi
         have HIr:=hid hi;have HBr:=hid hb
         clear hi hb hLk hcells hR
         generalize p.st[k]=x at *
         clear hlt
         obtain ⟨x1,x2⟩:=x
         dsimp only at c0 c1
         have HX2:=hid ((HOK.out.st.2.1 _ HMEM.out).2)
         obtain ⟨A,rfl⟩:∃ A:Nat,x2=(A:Int):=⟨x2.toNat,by have:=HX2.out.1;dsimp only at this;omega⟩
         have hA:A<nl:=by have:=HX2.out.2;dsimp only at this;rw [HNL.out] at this;omega
         have hAi:(A:Int)<(nl:Int):=by omega
         have hAi0:(0:Int)≤(A:Int):=by omega
         obtain ⟨lb,lo,rfl,hRl,hlv⟩:=str_at HP.out.1 (by rw [HNL.out];omega:0<p.lv.length)
         have HLA0:=hid (hlv A (by rw [HNL.out];exact hA))
         have HRL:=hid hRl
         have HGD:=hid (show p.lv.getD A []=p.lv[A]'(by rw [HNL.out];exact hA) from by rw [List.getD_eq_getElem?_getD,List.getElem?_eq_getElem (by rw [HNL.out];exact hA)];rfl)
         generalize p.lv[A]'(by rw [HNL.out];exact hA)=sA at *
         have HJN:=hid (show jn [kSite,x1,sA]=fBd p kSite (x1,(A:Int)) from by show _=jn [kSite,x1,p.lv.getD (A:Int).toNat []];rw [Int.toNat_natCast,HGD.out])
         have HLA:=hid (fun W (h:Below b w4 W)=>((HBW.out W h).cell (p:=⟨lb,lo+A,none⟩) HRL.out).trans HLA0.out)
         clear hlv hRl
         go_upto_region 24 with fail
         obtain ⟨p9,hp9⟩:∃ p9,wr.heap.size=p9:=⟨_,rfl⟩
         obtain ⟨wo,hwo⟩:∃ W,wr.alloc (.cells #[.string ⟨x1.toArray⟩,.int .i64 (A:Int)] 31)=W:=⟨_,rfl⟩
         rw [hwo,hp9]
         have hbx:BxL 31 p9 [.string ⟨x1.toArray⟩,.int .i64 (A:Int)] wo:=by rw [← hwo,← hp9];exact BxL.new _ _ _
         have hbo:Below wr.heap.size wr wo:=by rw [← hwo];exact (Below.refl _ _).alloc (Nat.le_refl _) _
         have HIo:=hid (isb_keep HIr.out hbo)
         have HBo:=hid (show Below b w4 wo from HBr.out.trans (hbo.mono (Nat.le_of_lt (isb_lt HIr.out))))
         have HBX:=hid hbx
         have HNE:=hid (show p9 ≠ b from by rw [← hp9];have:=isb_lt HIr.out;omega)
         have HSF:=hid (fun W (h:Below b w4 W) (hx:BxL 31 p9 [.string ⟨x1.toArray⟩,.int .i64 (A:Int)] W)=>show (fun W:World=>W.cell? ⟨w.heap.size,0,none⟩=some (.slice (some ⟨lb,lo,none⟩) nl ca)∧W.cell? ⟨p9,0,none⟩=some (.string ⟨x1.toArray⟩)∧W.cell? ⟨p9,1,none⟩=some (.int .i64 (A:Int))∧W.cell? ⟨lb,lo+A,none⟩=some (.string ⟨sA.toArray⟩)) W from ⟨(HX.out W h).at 0 rfl,hx.at 0 rfl,hx.at 1 rfl,HLA.out W h⟩)
         have hS:(fun W:World=>W.cell? ⟨w.heap.size,0,none⟩=some (.slice (some ⟨lb,lo,none⟩) nl ca)∧W.cell? ⟨p9,0,none⟩=some (.string ⟨x1.toArray⟩)∧W.cell? ⟨p9,1,none⟩=some (.int .i64 (A:Int))∧W.cell? ⟨lb,lo+A,none⟩=some (.string ⟨sA.toArray⟩)) wo.drew:=HSF.out wo HBo.out hbx
         clear hwo hbx hbo c0 c1 hp9
         have hFa:=fT
         refine rgN (fun W:World=>W.cell? ⟨w.heap.size,0,none⟩=some (.slice (some ⟨lb,lo,none⟩) nl ca)∧W.cell? ⟨p9,0,none⟩=some (.string ⟨x1.toArray⟩)∧W.cell? ⟨p9,1,none⟩=some (.int .i64 (A:Int))∧W.cell? ⟨lb,lo+A,none⟩=some (.string ⟨sA.toArray⟩)) 11 (by kernel_rfl) ?_
         simp only [List.size_toArray,List.length_cons,List.length_nil,Nat.reduceAdd]
         iterate 9 (refine wpHJ_nx (v:=?_) 11 rfl rfl (by kernel_rfl) nE hS ?_ ?_;rotate_left;(focus refine Or.inl ⟨by rfl,?_⟩;rintro w' ⟨s0,s1,s2,s3⟩;go_simp;try rfl);simp only [Act.put,actP,actQ])
         refine wpHJ_only 9 (by kernel_rfl) rfl (fun K hK=>?_)
         go_simp
         have HIs:=hid (show Lib.IsBuilderF 68 5 b b (Lib.byteCells (textT (Lk))) wo.drew from HIo.out)
         have HBs:=hid (show Below b w4 wo.drew from HBo.out.trans ((Below.refl wo.heap.size wo).drew.mono (Nat.le_of_lt (isb_lt HIo.out))))
         have hS2:=HSF.out _ (HBs.out.alloc (Nat.le_of_lt (isb_lt HIs.out)) _) ((show BxL 31 p9 [.string ⟨x1.toArray⟩,.int .i64 (A:Int)] wo.drew from HBX.out).al (.cells #[.string ⟨(kSite).toArray⟩,.string ⟨x1.toArray⟩,.string ⟨sA.toArray⟩] 9))
         refine hK _ _ (.inr (.inr hS2)) ?_
         clear hK K
         refine wpHJ_only 10 (by kernel_rfl) rfl (fun K hK=>?_)
         go_simp
         (refine (callsIn_wide.2 (put_po b Lk [kSite,x1,sA] _ _ (isb_keep HIs.out ((Below.refl wo.drew.heap.size wo.drew).alloc (Nat.le_refl _) _)) ((GA.litS (B:=wo.drew.heap.size) wo.drew 9 [kSite,x1,sA] (by simp) (by simp) (Nat.le_refl _)).sl (by simp)) (by rw [HJN.out];exact part_po HOK.out (HPRE.out)))).mono ?_)
         rintro e w7 ⟨rfl,hi2,hb2,hk2⟩
         rw [HJN.out] at hi2
         have HI7:=hid hi2
         have HB7:=hid ((HBs.out.alloc (Nat.le_of_lt (isb_lt HIs.out)) _).trans hb2)
         have hS3:=HSF.out _ HB7.out (kept_box hk2 ((show BxL 31 p9 [.string ⟨x1.toArray⟩,.int .i64 (A:Int)] wo.drew from HBX.out).al (.cells #[.string ⟨(kSite).toArray⟩,.string ⟨x1.toArray⟩,.string ⟨sA.toArray⟩] 9)) HNE.out (by decide))
         clear hi2 hb2 hk2
         refine hK _ _ (.inr (.inr hS3)) ?_
         clear hK K
         refine wpHJ_done (by kernel_rfl) ?_ _
         simp only [onlyN,Exit.then]
         clear hFa
         clear hS hS2 hS3
         go_wp2_with fail
         go_roundw
         case rel=>exact ⟨k+1,by omega,by go_num,by rw [← HSN.out];exact HI7.out,HB7.out⟩
         case measure=>simp [intOf];omega
        ·have eqn:ns=k:=by omega
         subst eqn
         have t4:decide ((ns:Int)<(ns:Int))=false:=decide_eq_false (by omega)
         rw [List.take_of_length_le (by rw [HNS.out];omega)] at hi
         have HIe:=hid hi;have HBe:=hid hb
         clear hi hb hlt0 hk
         have HT0:=hid (preQ4 p)
         obtain ⟨ms,hms⟩:∃ m,(if p.sens then kSens else kInsens)=m:=⟨_,rfl⟩
         obtain ⟨z1,hz1⟩:∃ z,p.steps=z:=⟨_,rfl⟩
         obtain ⟨z2,hz2⟩:∃ z,p.paths=z:=⟨_,rfl⟩
         obtain ⟨z3,hz3⟩:∃ z,p.nodes=z:=⟨_,rfl⟩
         obtain ⟨z4,hz4⟩:∃ z,p.conf=z:=⟨_,rfl⟩
         have HTL:=hid (show tl p=[jn [kMode,ms],jn [kSteps,Lib.itoa z1],jn [kPaths,Lib.itoa z2],jn [kNodes,Lib.itoa z3],jn [kConf,Lib.itoa z4]] from by rw [← hms,← hz1,← hz2,← hz3,← hz4];rfl)
         have HRG:=hid (show (1≤z1∧z1≤65536)∧(1≤z2∧z2≤4096)∧(0≤z3∧z3≤1048576)∧0≤z4∧z4≤1099511627776 from by
          have:=HOK.out.rg
          unfold rangeB at this
          simp only [Bool.and_eq_true,decide_eq_true_eq] at this
          omega)
         have m4:=(HX.out wr HBe.out).at 4 rfl
         have HC:=hid (fun W (h:Below b w4 W)=>show W.cell? ⟨w.heap.size,5,none⟩=some (.int .i64 z1)∧W.cell? ⟨w.heap.size,6,none⟩=some (.int .i64 z2)∧W.cell? ⟨w.heap.size,7,none⟩=some (.int .i64 z3)∧W.cell? ⟨w.heap.size,8,none⟩=some (.int .i64 z4) from by
          rw [← hz1,← hz2,← hz3,← hz4]
          exact ⟨(HX.out W h).at 5 rfl,(HX.out W h).at 6 rfl,(HX.out W h).at 7 rfl,(HX.out W h).at 8 rfl⟩)
         obtain ⟨N,hN⟩:∃ N,(textP p).length=N:=⟨_,rfl⟩
         have HN:=hid hN
         have HM:=hid (show printP p=if 65536<N then ([],5) else (textP p,0) from by unfold printP;rw [if_neg (by rw [HCK.out];simp),hN])
         have HTX:=hid (show textP p=textT (Q4 p++[jn [kMode,ms]]++[jn [kSteps,Lib.itoa z1]]++[jn [kPaths,Lib.itoa z2]]++[jn [kNodes,Lib.itoa z3]]++[jn [kConf,Lib.itoa z4]]) from by unfold textP;rw [lines_Q,HTL.out];simp)
         have HTF:=hid (show textP p=textT (Q4 p++[jn [kMode,ms],jn [kSteps,Lib.itoa z1],jn [kPaths,Lib.itoa z2],jn [kNodes,Lib.itoa z3],jn [kConf,Lib.itoa z4]]) from by unfold textP;rw [lines_Q,HTL.out])
         have HPL:=hid (fun (a:List Bs) (h:a <+: Q4 p++[jn [kMode,ms]]++[jn [kSteps,Lib.itoa z1]]++[jn [kPaths,Lib.itoa z2]]++[jn [kNodes,Lib.itoa z3]]++[jn [kConf,Lib.itoa z4]])=>part_po HOK.out (a:=a) (by rw [HTL.out];simpa using h))
         clear hN hz1 hz2 hz3 hz4
         cases hfl:p.sens with
         | true =>
          rw [hfl] at m4
          have HMS:=hid (show ms=kSens from by rw [← hms,hfl];rfl)
          clear hms
          rw [HMS.out] at HTL HTX HPL HTF
          by_cases hbig:65536<N
          ·have HBG:=hid hbig
           have hb1:(65536:Int)<(N:Int):=by omega
           clear hbig
           go_wp2_with (first
            | (go_at_call 30;(refine (put_po b (Q4 p) [kMode,kSens] _ _ (isb_keep HIe.out ((Below.refl wr.heap.size wr).alloc (Nat.le_refl _) _)) ((GA.litS (B:=wr.heap.size) wr 9 [kMode,kSens] (by simp) (by simp) (Nat.le_refl _)).sl (by simp)) (HPL.out _ (by simp))).mono ?_);rintro e w10 ⟨rfl,hi2,hb2,hk2⟩;have HI10:=hid hi2;have HB10:=hid ((HBe.out.alloc (Nat.le_of_lt (isb_lt HIe.out)) _).trans hb2);have p5:=(HC.out _ HB10.out).1;clear hi2 hb2 hk2)
            | (go_at_call 33;(refine (itoaP_any z1 _ (by have:=HRG.out;omega) (by have:=HRG.out;omega) (HEW.out _ HB10.out)).mono ?_);rintro e w11 ⟨rfl,hb5⟩;have HI11:=hid (isb_keep HI10.out hb5);have HB11:=hid (show Below b w4 w11 from HB10.out.trans (hb5.mono (Nat.le_of_lt (isb_lt HI10.out))));clear hb5)
            | (go_at_call 30;(refine (put_po b (Q4 p++[jn [kMode,kSens]]) [kSteps,Lib.itoa z1] _ _ (isb_keep HI11.out ((Below.refl w11.heap.size w11).alloc (Nat.le_refl _) _)) ((GA.litS (B:=w11.heap.size) w11 9 [kSteps,Lib.itoa z1] (by simp) (by simp) (Nat.le_refl _)).sl (by simp)) (HPL.out _ (by simp))).mono ?_);rintro e w20 ⟨rfl,hi2,hb2,hk2⟩;have HI20:=hid hi2;have HB20:=hid ((HB11.out.alloc (Nat.le_of_lt (isb_lt HI11.out)) _).trans hb2);have p6:=(HC.out _ HB20.out).2.1;clear hi2 hb2 hk2)
            | (go_at_call 33;(refine (itoaP_any z2 _ (by have:=HRG.out;omega) (by have:=HRG.out;omega) (HEW.out _ HB20.out)).mono ?_);rintro e w21 ⟨rfl,hb5⟩;have HI21:=hid (isb_keep HI20.out hb5);have HB21:=hid (show Below b w4 w21 from HB20.out.trans (hb5.mono (Nat.le_of_lt (isb_lt HI20.out))));clear hb5)
            | (go_at_call 30;(refine (put_po b (Q4 p++[jn [kMode,kSens]]++[jn [kSteps,Lib.itoa z1]]) [kPaths,Lib.itoa z2] _ _ (isb_keep HI21.out ((Below.refl w21.heap.size w21).alloc (Nat.le_refl _) _)) ((GA.litS (B:=w21.heap.size) w21 9 [kPaths,Lib.itoa z2] (by simp) (by simp) (Nat.le_refl _)).sl (by simp)) (HPL.out _ (by simp))).mono ?_);rintro e w30 ⟨rfl,hi2,hb2,hk2⟩;have HI30:=hid hi2;have HB30:=hid ((HB21.out.alloc (Nat.le_of_lt (isb_lt HI21.out)) _).trans hb2);have p7:=(HC.out _ HB30.out).2.2.1;clear hi2 hb2 hk2)
            | (go_at_call 33;(refine (itoaP_any z3 _ (by have:=HRG.out;omega) (by have:=HRG.out;omega) (HEW.out _ HB30.out)).mono ?_);rintro e w31 ⟨rfl,hb5⟩;have HI31:=hid (isb_keep HI30.out hb5);have HB31:=hid (show Below b w4 w31 from HB30.out.trans (hb5.mono (Nat.le_of_lt (isb_lt HI30.out))));clear hb5)
            | (go_at_call 30;(refine (put_po b (Q4 p++[jn [kMode,kSens]]++[jn [kSteps,Lib.itoa z1]]++[jn [kPaths,Lib.itoa z2]]) [kNodes,Lib.itoa z3] _ _ (isb_keep HI31.out ((Below.refl w31.heap.size w31).alloc (Nat.le_refl _) _)) ((GA.litS (B:=w31.heap.size) w31 9 [kNodes,Lib.itoa z3] (by simp) (by simp) (Nat.le_refl _)).sl (by simp)) (HPL.out _ (by simp))).mono ?_);rintro e w40 ⟨rfl,hi2,hb2,hk2⟩;have HI40:=hid hi2;have HB40:=hid ((HB31.out.alloc (Nat.le_of_lt (isb_lt HI31.out)) _).trans hb2);have p8:=(HC.out _ HB40.out).2.2.2;clear hi2 hb2 hk2)
            | (go_at_call 33;(refine (itoaP_any z4 _ (by have:=HRG.out;omega) (by have:=HRG.out;omega) (HEW.out _ HB40.out)).mono ?_);rintro e w41 ⟨rfl,hb5⟩;have HI41:=hid (isb_keep HI40.out hb5);have HB41:=hid (show Below b w4 w41 from HB40.out.trans (hb5.mono (Nat.le_of_lt (isb_lt HI40.out))));clear hb5)
            | (go_at_call 30;(refine (put_po b (Q4 p++[jn [kMode,kSens]]++[jn [kSteps,Lib.itoa z1]]++[jn [kPaths,Lib.itoa z2]]++[jn [kNodes,Lib.itoa z3]]) [kConf,Lib.itoa z4] _ _ (isb_keep HI41.out ((Below.refl w41.heap.size w41).alloc (Nat.le_refl _) _)) ((GA.litS (B:=w41.heap.size) w41 9 [kConf,Lib.itoa z4] (by simp) (by simp) (Nat.le_refl _)).sl (by simp)) (HPL.out _ (by simp))).mono ?_);rintro e w50 ⟨rfl,hi2,hb2,hk2⟩;have HI50:=hid hi2;have HB50:=hid ((HB41.out.alloc (Nat.le_of_lt (isb_lt HI41.out)) _).trans hb2);clear hi2 hb2 hk2)
            | (go_at_call 34;(refine (Tryd.Builder_Len_f b b _ _ HI50.out).mono ?_);rintro e w60 ⟨rfl,rfl⟩;rw [Lib.byteCells_length,← HTX.out,HN.out]))
           go_ret2
           refine ⟨?_,HBW.out _ HB50.out⟩
           rw [HM.out,if_pos HBG.out];rfl
          ·have HBG:=hid hbig
           have hb1:¬ (65536:Int)<(N:Int):=by omega
           clear hbig
           go_wp2_with (first
            | (go_at_call 30;(refine (put_po b (Q4 p) [kMode,kSens] _ _ (isb_keep HIe.out ((Below.refl wr.heap.size wr).alloc (Nat.le_refl _) _)) ((GA.litS (B:=wr.heap.size) wr 9 [kMode,kSens] (by simp) (by simp) (Nat.le_refl _)).sl (by simp)) (HPL.out _ (by simp))).mono ?_);rintro e w10 ⟨rfl,hi2,hb2,hk2⟩;have HI10:=hid hi2;have HB10:=hid ((HBe.out.alloc (Nat.le_of_lt (isb_lt HIe.out)) _).trans hb2);have p5:=(HC.out _ HB10.out).1;clear hi2 hb2 hk2)
            | (go_at_call 33;(refine (itoaP_any z1 _ (by have:=HRG.out;omega) (by have:=HRG.out;omega) (HEW.out _ HB10.out)).mono ?_);rintro e w11 ⟨rfl,hb5⟩;have HI11:=hid (isb_keep HI10.out hb5);have HB11:=hid (show Below b w4 w11 from HB10.out.trans (hb5.mono (Nat.le_of_lt (isb_lt HI10.out))));clear hb5)
            | (go_at_call 30;(refine (put_po b (Q4 p++[jn [kMode,kSens]]) [kSteps,Lib.itoa z1] _ _ (isb_keep HI11.out ((Below.refl w11.heap.size w11).alloc (Nat.le_refl _) _)) ((GA.litS (B:=w11.heap.size) w11 9 [kSteps,Lib.itoa z1] (by simp) (by simp) (Nat.le_refl _)).sl (by simp)) (HPL.out _ (by simp))).mono ?_);rintro e w20 ⟨rfl,hi2,hb2,hk2⟩;have HI20:=hid hi2;have HB20:=hid ((HB11.out.alloc (Nat.le_of_lt (isb_lt HI11.out)) _).trans hb2);have p6:=(HC.out _ HB20.out).2.1;clear hi2 hb2 hk2)
            | (go_at_call 33;(refine (itoaP_any z2 _ (by have:=HRG.out;omega) (by have:=HRG.out;omega) (HEW.out _ HB20.out)).mono ?_);rintro e w21 ⟨rfl,hb5⟩;have HI21:=hid (isb_keep HI20.out hb5);have HB21:=hid (show Below b w4 w21 from HB20.out.trans (hb5.mono (Nat.le_of_lt (isb_lt HI20.out))));clear hb5)
            | (go_at_call 30;(refine (put_po b (Q4 p++[jn [kMode,kSens]]++[jn [kSteps,Lib.itoa z1]]) [kPaths,Lib.itoa z2] _ _ (isb_keep HI21.out ((Below.refl w21.heap.size w21).alloc (Nat.le_refl _) _)) ((GA.litS (B:=w21.heap.size) w21 9 [kPaths,Lib.itoa z2] (by simp) (by simp) (Nat.le_refl _)).sl (by simp)) (HPL.out _ (by simp))).mono ?_);rintro e w30 ⟨rfl,hi2,hb2,hk2⟩;have HI30:=hid hi2;have HB30:=hid ((HB21.out.alloc (Nat.le_of_lt (isb_lt HI21.out)) _).trans hb2);have p7:=(HC.out _ HB30.out).2.2.1;clear hi2 hb2 hk2)
            | (go_at_call 33;(refine (itoaP_any z3 _ (by have:=HRG.out;omega) (by have:=HRG.out;omega) (HEW.out _ HB30.out)).mono ?_);rintro e w31 ⟨rfl,hb5⟩;have HI31:=hid (isb_keep HI30.out hb5);have HB31:=hid (show Below b w4 w31 from HB30.out.trans (hb5.mono (Nat.le_of_lt (isb_lt HI30.out))));clear hb5)
            | (go_at_call 30;(refine (put_po b (Q4 p++[jn [kMode,kSens]]++[jn [kSteps,Lib.itoa z1]]++[jn [kPaths,Lib.itoa z2]]) [kNodes,Lib.itoa z3] _ _ (isb_keep HI31.out ((Below.refl w31.heap.size w31).alloc (Nat.le_refl _) _)) ((GA.litS (B:=w31.heap.size) w31 9 [kNodes,Lib.itoa z3] (by simp) (by simp) (Nat.le_refl _)).sl (by simp)) (HPL.out _ (by simp))).mono ?_);rintro e w40 ⟨rfl,hi2,hb2,hk2⟩;have HI40:=hid hi2;have HB40:=hid ((HB31.out.alloc (Nat.le_of_lt (isb_lt HI31.out)) _).trans hb2);have p8:=(HC.out _ HB40.out).2.2.2;clear hi2 hb2 hk2)
            | (go_at_call 33;(refine (itoaP_any z4 _ (by have:=HRG.out;omega) (by have:=HRG.out;omega) (HEW.out _ HB40.out)).mono ?_);rintro e w41 ⟨rfl,hb5⟩;have HI41:=hid (isb_keep HI40.out hb5);have HB41:=hid (show Below b w4 w41 from HB40.out.trans (hb5.mono (Nat.le_of_lt (isb_lt HI40.out))));clear hb5)
            | (go_at_call 30;(refine (put_po b (Q4 p++[jn [kMode,kSens]]++[jn [kSteps,Lib.itoa z1]]++[jn [kPaths,Lib.itoa z2]]++[jn [kNodes,Lib.itoa z3]]) [kConf,Lib.itoa z4] _ _ (isb_keep HI41.out ((Below.refl w41.heap.size w41).alloc (Nat.le_refl _) _)) ((GA.litS (B:=w41.heap.size) w41 9 [kConf,Lib.itoa z4] (by simp) (by simp) (Nat.le_refl _)).sl (by simp)) (HPL.out _ (by simp))).mono ?_);rintro e w50 ⟨rfl,hi2,hb2,hk2⟩;have HI50:=hid hi2;have HB50:=hid ((HB41.out.alloc (Nat.le_of_lt (isb_lt HI41.out)) _).trans hb2);clear hi2 hb2 hk2)
            | (go_at_call 34;(refine (Tryd.Builder_Len_f b b _ _ HI50.out).mono ?_);rintro e w60 ⟨rfl,rfl⟩;rw [Lib.byteCells_length,← HTX.out,HN.out])
            | (go_at_call 35;(refine (Tryd.Builder_String_any_f b b _ _ HI50.out (Nat.le_of_lt (isb_lt HI50.out))).mono ?_);rintro e w70 ⟨rfl,hi9,hb9⟩;have HB70:=hid (HB50.out.trans hb9);clear hi9 hb9))
           go_ret2
           refine ⟨?_,HBW.out _ HB70.out⟩
           rw [HM.out,if_neg HBG.out,HTF.out];rfl
         | false =>
          rw [hfl] at m4
          have HMS:=hid (show ms=kInsens from by rw [← hms,hfl];rfl)
          clear hms
          rw [HMS.out] at HTL HTX HPL HTF
          by_cases hbig:65536<N
          ·have HBG:=hid hbig
           have hb1:(65536:Int)<(N:Int):=by omega
           clear hbig
           go_wp2_with (first
            | (go_at_call 30;(refine (put_po b (Q4 p) [kMode,kInsens] _ _ (isb_keep HIe.out ((Below.refl wr.heap.size wr).alloc (Nat.le_refl _) _)) ((GA.litS (B:=wr.heap.size) wr 9 [kMode,kInsens] (by simp) (by simp) (Nat.le_refl _)).sl (by simp)) (HPL.out _ (by simp))).mono ?_);rintro e w10 ⟨rfl,hi2,hb2,hk2⟩;have HI10:=hid hi2;have HB10:=hid ((HBe.out.alloc (Nat.le_of_lt (isb_lt HIe.out)) _).trans hb2);have p5:=(HC.out _ HB10.out).1;clear hi2 hb2 hk2)
            | (go_at_call 33;(refine (itoaP_any z1 _ (by have:=HRG.out;omega) (by have:=HRG.out;omega) (HEW.out _ HB10.out)).mono ?_);rintro e w11 ⟨rfl,hb5⟩;have HI11:=hid (isb_keep HI10.out hb5);have HB11:=hid (show Below b w4 w11 from HB10.out.trans (hb5.mono (Nat.le_of_lt (isb_lt HI10.out))));clear hb5)
            | (go_at_call 30;(refine (put_po b (Q4 p++[jn [kMode,kInsens]]) [kSteps,Lib.itoa z1] _ _ (isb_keep HI11.out ((Below.refl w11.heap.size w11).alloc (Nat.le_refl _) _)) ((GA.litS (B:=w11.heap.size) w11 9 [kSteps,Lib.itoa z1] (by simp) (by simp) (Nat.le_refl _)).sl (by simp)) (HPL.out _ (by simp))).mono ?_);rintro e w20 ⟨rfl,hi2,hb2,hk2⟩;have HI20:=hid hi2;have HB20:=hid ((HB11.out.alloc (Nat.le_of_lt (isb_lt HI11.out)) _).trans hb2);have p6:=(HC.out _ HB20.out).2.1;clear hi2 hb2 hk2)
            | (go_at_call 33;(refine (itoaP_any z2 _ (by have:=HRG.out;omega) (by have:=HRG.out;omega) (HEW.out _ HB20.out)).mono ?_);rintro e w21 ⟨rfl,hb5⟩;have HI21:=hid (isb_keep HI20.out hb5);have HB21:=hid (show Below b w4 w21 from HB20.out.trans (hb5.mono (Nat.le_of_lt (isb_lt HI20.out))));clear hb5)
            | (go_at_call 30;(refine (put_po b (Q4 p++[jn [kMode,kInsens]]++[jn [kSteps,Lib.itoa z1]]) [kPaths,Lib.itoa z2] _ _ (isb_keep HI21.out ((Below.refl w21.heap.size w21).alloc (Nat.le_refl _) _)) ((GA.litS (B:=w21.heap.size) w21 9 [kPaths,Lib.itoa z2] (by simp) (by simp) (Nat.le_refl _)).sl (by simp)) (HPL.out _ (by simp))).mono ?_);rintro e w30 ⟨rfl,hi2,hb2,hk2⟩;have HI30:=hid hi2;have HB30:=hid ((HB21.out.alloc (Nat.le_of_lt (isb_lt HI21.out)) _).trans hb2);have p7:=(HC.out _ HB30.out).2.2.1;clear hi2 hb2 hk2)
            | (go_at_call 33;(refine (itoaP_any z3 _ (by have:=HRG.out;omega) (by have:=HRG.out;omega) (HEW.out _ HB30.out)).mono ?_);rintro e w31 ⟨rfl,hb5⟩;have HI31:=hid (isb_keep HI30.out hb5);have HB31:=hid (show Below b w4 w31 from HB30.out.trans (hb5.mono (Nat.le_of_lt (isb_lt HI30.out))));clear hb5)
            | (go_at_call 30;(refine (put_po b (Q4 p++[jn [kMode,kInsens]]++[jn [kSteps,Lib.itoa z1]]++[jn [kPaths,Lib.itoa z2]]) [kNodes,Lib.itoa z3] _ _ (isb_keep HI31.out ((Below.refl w31.heap.size w31).alloc (Nat.le_refl _) _)) ((GA.litS (B:=w31.heap.size) w31 9 [kNodes,Lib.itoa z3] (by simp) (by simp) (Nat.le_refl _)).sl (by simp)) (HPL.out _ (by simp))).mono ?_);rintro e w40 ⟨rfl,hi2,hb2,hk2⟩;have HI40:=hid hi2;have HB40:=hid ((HB31.out.alloc (Nat.le_of_lt (isb_lt HI31.out)) _).trans hb2);have p8:=(HC.out _ HB40.out).2.2.2;clear hi2 hb2 hk2)
            | (go_at_call 33;(refine (itoaP_any z4 _ (by have:=HRG.out;omega) (by have:=HRG.out;omega) (HEW.out _ HB40.out)).mono ?_);rintro e w41 ⟨rfl,hb5⟩;have HI41:=hid (isb_keep HI40.out hb5);have HB41:=hid (show Below b w4 w41 from HB40.out.trans (hb5.mono (Nat.le_of_lt (isb_lt HI40.out))));clear hb5)
            | (go_at_call 30;(refine (put_po b (Q4 p++[jn [kMode,kInsens]]++[jn [kSteps,Lib.itoa z1]]++[jn [kPaths,Lib.itoa z2]]++[jn [kNodes,Lib.itoa z3]]) [kConf,Lib.itoa z4] _ _ (isb_keep HI41.out ((Below.refl w41.heap.size w41).alloc (Nat.le_refl _) _)) ((GA.litS (B:=w41.heap.size) w41 9 [kConf,Lib.itoa z4] (by simp) (by simp) (Nat.le_refl _)).sl (by simp)) (HPL.out _ (by simp))).mono ?_);rintro e w50 ⟨rfl,hi2,hb2,hk2⟩;have HI50:=hid hi2;have HB50:=hid ((HB41.out.alloc (Nat.le_of_lt (isb_lt HI41.out)) _).trans hb2);clear hi2 hb2 hk2)
            | (go_at_call 34;(refine (Tryd.Builder_Len_f b b _ _ HI50.out).mono ?_);rintro e w60 ⟨rfl,rfl⟩;rw [Lib.byteCells_length,← HTX.out,HN.out]))
           go_ret2
           refine ⟨?_,HBW.out _ HB50.out⟩
           rw [HM.out,if_pos HBG.out];rfl
          ·have HBG:=hid hbig
           have hb1:¬ (65536:Int)<(N:Int):=by omega
           clear hbig
           go_wp2_with (first
            | (go_at_call 30;(refine (put_po b (Q4 p) [kMode,kInsens] _ _ (isb_keep HIe.out ((Below.refl wr.heap.size wr).alloc (Nat.le_refl _) _)) ((GA.litS (B:=wr.heap.size) wr 9 [kMode,kInsens] (by simp) (by simp) (Nat.le_refl _)).sl (by simp)) (HPL.out _ (by simp))).mono ?_);rintro e w10 ⟨rfl,hi2,hb2,hk2⟩;have HI10:=hid hi2;have HB10:=hid ((HBe.out.alloc (Nat.le_of_lt (isb_lt HIe.out)) _).trans hb2);have p5:=(HC.out _ HB10.out).1;clear hi2 hb2 hk2)
            | (go_at_call 33;(refine (itoaP_any z1 _ (by have:=HRG.out;omega) (by have:=HRG.out;omega) (HEW.out _ HB10.out)).mono ?_);rintro e w11 ⟨rfl,hb5⟩;have HI11:=hid (isb_keep HI10.out hb5);have HB11:=hid (show Below b w4 w11 from HB10.out.trans (hb5.mono (Nat.le_of_lt (isb_lt HI10.out))));clear hb5)
            | (go_at_call 30;(refine (put_po b (Q4 p++[jn [kMode,kInsens]]) [kSteps,Lib.itoa z1] _ _ (isb_keep HI11.out ((Below.refl w11.heap.size w11).alloc (Nat.le_refl _) _)) ((GA.litS (B:=w11.heap.size) w11 9 [kSteps,Lib.itoa z1] (by simp) (by simp) (Nat.le_refl _)).sl (by simp)) (HPL.out _ (by simp))).mono ?_);rintro e w20 ⟨rfl,hi2,hb2,hk2⟩;have HI20:=hid hi2;have HB20:=hid ((HB11.out.alloc (Nat.le_of_lt (isb_lt HI11.out)) _).trans hb2);have p6:=(HC.out _ HB20.out).2.1;clear hi2 hb2 hk2)
            | (go_at_call 33;(refine (itoaP_any z2 _ (by have:=HRG.out;omega) (by have:=HRG.out;omega) (HEW.out _ HB20.out)).mono ?_);rintro e w21 ⟨rfl,hb5⟩;have HI21:=hid (isb_keep HI20.out hb5);have HB21:=hid (show Below b w4 w21 from HB20.out.trans (hb5.mono (Nat.le_of_lt (isb_lt HI20.out))));clear hb5)
            | (go_at_call 30;(refine (put_po b (Q4 p++[jn [kMode,kInsens]]++[jn [kSteps,Lib.itoa z1]]) [kPaths,Lib.itoa z2] _ _ (isb_keep HI21.out ((Below.refl w21.heap.size w21).alloc (Nat.le_refl _) _)) ((GA.litS (B:=w21.heap.size) w21 9 [kPaths,Lib.itoa z2] (by simp) (by simp) (Nat.le_refl _)).sl (by simp)) (HPL.out _ (by simp))).mono ?_);rintro e w30 ⟨rfl,hi2,hb2,hk2⟩;have HI30:=hid hi2;have HB30:=hid ((HB21.out.alloc (Nat.le_of_lt (isb_lt HI21.out)) _).trans hb2);have p7:=(HC.out _ HB30.out).2.2.1;clear hi2 hb2 hk2)
            | (go_at_call 33;(refine (itoaP_any z3 _ (by have:=HRG.out;omega) (by have:=HRG.out;omega) (HEW.out _ HB30.out)).mono ?_);rintro e w31 ⟨rfl,hb5⟩;have HI31:=hid (isb_keep HI30.out hb5);have HB31:=hid (show Below b w4 w31 from HB30.out.trans (hb5.mono (Nat.le_of_lt (isb_lt HI30.out))));clear hb5)
            | (go_at_call 30;(refine (put_po b (Q4 p++[jn [kMode,kInsens]]++[jn [kSteps,Lib.itoa z1]]++[jn [kPaths,Lib.itoa z2]]) [kNodes,Lib.itoa z3] _ _ (isb_keep HI31.out ((Below.refl w31.heap.size w31).alloc (Nat.le_refl _) _)) ((GA.litS (B:=w31.heap.size) w31 9 [kNodes,Lib.itoa z3] (by simp) (by simp) (Nat.le_refl _)).sl (by simp)) (HPL.out _ (by simp))).mono ?_);rintro e w40 ⟨rfl,hi2,hb2,hk2⟩;have HI40:=hid hi2;have HB40:=hid ((HB31.out.alloc (Nat.le_of_lt (isb_lt HI31.out)) _).trans hb2);have p8:=(HC.out _ HB40.out).2.2.2;clear hi2 hb2 hk2)
            | (go_at_call 33;(refine (itoaP_any z4 _ (by have:=HRG.out;omega) (by have:=HRG.out;omega) (HEW.out _ HB40.out)).mono ?_);rintro e w41 ⟨rfl,hb5⟩;have HI41:=hid (isb_keep HI40.out hb5);have HB41:=hid (show Below b w4 w41 from HB40.out.trans (hb5.mono (Nat.le_of_lt (isb_lt HI40.out))));clear hb5)
            | (go_at_call 30;(refine (put_po b (Q4 p++[jn [kMode,kInsens]]++[jn [kSteps,Lib.itoa z1]]++[jn [kPaths,Lib.itoa z2]]++[jn [kNodes,Lib.itoa z3]]) [kConf,Lib.itoa z4] _ _ (isb_keep HI41.out ((Below.refl w41.heap.size w41).alloc (Nat.le_refl _) _)) ((GA.litS (B:=w41.heap.size) w41 9 [kConf,Lib.itoa z4] (by simp) (by simp) (Nat.le_refl _)).sl (by simp)) (HPL.out _ (by simp))).mono ?_);rintro e w50 ⟨rfl,hi2,hb2,hk2⟩;have HI50:=hid hi2;have HB50:=hid ((HB41.out.alloc (Nat.le_of_lt (isb_lt HI41.out)) _).trans hb2);clear hi2 hb2 hk2)
            | (go_at_call 34;(refine (Tryd.Builder_Len_f b b _ _ HI50.out).mono ?_);rintro e w60 ⟨rfl,rfl⟩;rw [Lib.byteCells_length,← HTX.out,HN.out])
            | (go_at_call 35;(refine (Tryd.Builder_String_any_f b b _ _ HI50.out (Nat.le_of_lt (isb_lt HI50.out))).mono ?_);rintro e w70 ⟨rfl,hi9,hb9⟩;have HB70:=hid (HB50.out.trans hb9);clear hi9 hb9))
           go_ret2
           refine ⟨?_,HBW.out _ HB70.out⟩
           rw [HM.out,if_neg HBG.out,HTF.out];rfl
theorem print_po (p:Po) (va vb vc vd:Value) (w:World) (hE:PoE w) (hp:PoV (·<w.heap.size) w va vb vc vd p) (hs:PoS p) :
  Calls Tryd.prog 12 #[.agg (poL va vb vc vd p).toArray] w fun e w'=>e = .returned (.tuple #[.string ⟨(printP p).1.toArray⟩,.int .i64 (printP p).2])∧Below w.heap.size w w':=by
 by_cases h:checkP p=0
 ·exact print_good_po p va vb vc vd w hE hp hs h
 ·exact print_bad_po p va vb vc vd w hE hp hs h
end Go.Proofs.YtbijamcoibonkaaDoor
