/-
 The reference: Print of policies.
-/
import Derived.Test.YtbijamcoibonkaaDoorCSRnE
import Derived.Test.YtbijamcoibonkaaDoorCSPoB
import Derived.Test.YtbijamcoibonkaaDoorCB16
import Derived.Test.YtbijamcoibonkaaDoorCSPs
import Derived.Deep.DeepCutAuto
namespace Go.Proofs.YtbijamcoibonkaaDoor
set_option linter.unusedSimpArgs false
set_option linter.unusedVariables false
open Go.RowKit Go.Shelf
attribute [local go_sem] Oper.semAt_some
theorem GA.gr {B e:Nat} {w:World} {v:Value} {l:List Bs} (h:GA kStr B e w v l):GR kStr NoR B e w v l:=let ⟨css,h1,h2⟩:=h.row;⟨css,⟨h1.1,fun i hi hi'=>kS (h1.2 i hi hi')⟩,h2⟩
theorem GR.ga5 {B e:Nat} {w:World} {v:Value} {l:List Bs} (h:GR kStr NoR B e w v l):GA kStr B e w v l:=let ⟨css,h1,h2⟩:=h;⟨⟨css,⟨h1.1,fun i hi hi'=>kS (h1.2 i hi hi')⟩,h2⟩⟩
theorem jnP2 (a b:Bs):jn [a,b]=a++[32]++b:=by simp [jn,Lib.join,Lib.joinTail]
theorem jnP3 (a b c:Bs):jn [a,b,c]=a++[32]++b++[32]++c:=by simp [jn,Lib.join,Lib.joinTail]
theorem lv_catP (s:Bs):(⟨#[108,101,118,101,108,32]⟩:ByteArray)++⟨s.toArray⟩=⟨(fLv s).toArray⟩:=by
 rw [show (⟨#[108,101,118,101,108,32]⟩:ByteArray)=⟨[108,101,118,101,108,32].toArray⟩ from rfl,ByteArray.mk_append_mk,fLv,jnP2];simp [kLevel]
theorem sbB {w w':World} {p:Addr} {v:Value} (hB:Below w.heap.size w w') (h:w.cell? p=some v):w'.cell? p=some v:=(hB.cell (World.block_lt_of_cell? _ _ h)).trans h
theorem c3_1 (a b:Bs):((⟨#[111,114,100,101,114,32]⟩:ByteArray)++⟨a.toArray⟩)++⟨#[32]⟩++⟨b.toArray⟩=⟨(jn [kOrder,a,b]).toArray⟩:=by
 rw [show (⟨#[111,114,100,101,114,32]⟩:ByteArray)=⟨[111,114,100,101,114,32].toArray⟩ from rfl,ByteArray.mk_append_mk,show (⟨#[32]⟩:ByteArray)=⟨[32].toArray⟩ from rfl,ByteArray.mk_append_mk,ByteArray.mk_append_mk,jnP3];simp [kOrder]
theorem c3_2 (a b:Bs):((⟨#[99,104,97,110,32]⟩:ByteArray)++⟨a.toArray⟩)++⟨#[32]⟩++⟨b.toArray⟩=⟨(jn [kChan,a,b]).toArray⟩:=by
 rw [show (⟨#[99,104,97,110,32]⟩:ByteArray)=⟨[99,104,97,110,32].toArray⟩ from rfl,ByteArray.mk_append_mk,show (⟨#[32]⟩:ByteArray)=⟨[32].toArray⟩ from rfl,ByteArray.mk_append_mk,ByteArray.mk_append_mk,jnP3];simp [kChan]
theorem c3_3 (a b:Bs):((⟨#[115,105,116,101,32]⟩:ByteArray)++⟨a.toArray⟩)++⟨#[32]⟩++⟨b.toArray⟩=⟨(jn [kSite,a,b]).toArray⟩:=by
 rw [show (⟨#[115,105,116,101,32]⟩:ByteArray)=⟨[115,105,116,101,32].toArray⟩ from rfl,ByteArray.mk_append_mk,show (⟨#[32]⟩:ByteArray)=⟨[32].toArray⟩ from rfl,ByteArray.mk_append_mk,ByteArray.mk_append_mk,jnP3];simp [kSite]
theorem c2_any (a b:Bs):((⟨a.toArray⟩:ByteArray)++⟨#[32]⟩)++⟨b.toArray⟩=⟨(jn [a,b]).toArray⟩:=by
 rw [show (⟨#[32]⟩:ByteArray)=⟨[32].toArray⟩ from rfl,ByteArray.mk_append_mk,ByteArray.mk_append_mk,jnP2]
theorem nl_cat (a b:Bs):((⟨a.toArray⟩:ByteArray)++⟨b.toArray⟩)++⟨#[10]⟩=⟨(a++b++[10]).toArray⟩:=by
 rw [show (⟨#[10]⟩:ByteArray)=⟨[10].toArray⟩ from rfl,ByteArray.mk_append_mk,ByteArray.mk_append_mk]
def fNm (x:Bs × Int):Bs:=jn [x.1,Lib.itoa x.2]
def plP (p:Po):List (Bs × Int):=[(kSteps,p.steps),(kPaths,p.paths),(kNodes,p.nodes),(kConf,p.conf)]
theorem tl_pl (p:Po):tl p=jn [kMode,if p.sens then kSens else kInsens] :: (plP p).map fNm:=rfl
def M0 (p:Po):List Bs:=Q4 p++[jn [kMode,if p.sens then kSens else kInsens]]
theorem itoa_natR (u:Nat):Lib.itoa (u:Int)=Lib.decDigits u:=by unfold Lib.itoa;rw [if_neg (by omega),Int.toNat_natCast]
structure Sp (q q2:Nat) (ws zs:List Value) (v:Value) (W:World):Prop where
 a:BxL 9 q ws W
 b:BxL 3 q2 zs W
 ne:∀ k,v.ownBlock=some k→q ≠ k∧q2 ≠ k
theorem Sp.bel {q q2:Nat} {ws zs:List Value} {v:Value} {W W':World} (h:Sp q q2 ws zs v W) (hb:Below W.heap.size W W'):Sp q q2 ws zs v W':=⟨h.a.bel hb,h.b.bel hb,h.ne⟩
theorem Sp.next {q q2:Nat} {ws zs:List Value} {v v':Value} {W W':World} (h:Sp q q2 ws zs v W) (hg:W.grownBy W' v.ownBlock) (hm:Moved W v v'):Sp q q2 ws zs v' W':=by
 have h1:=h.a.lt
 have h2:=h.b.lt
 refine ⟨h.a.keep (hg.block q h1 fun e=>(h.ne q e.symm).1 rfl),h.b.keep (hg.block q2 h2 fun e=>(h.ne q2 e.symm).2 rfl),fun k hk=>?_⟩
 rcases hm with e | ⟨j,e,hj⟩
 ·exact h.ne k (e ▸ hk)
 ·rw [e] at hk;cases hk;exact ⟨by omega,by omega⟩
set_option maxRecDepth 100000 in
set_option maxHeartbeats 4000000 in
theorem rprint_po (p:Po) (a b c d:Value) (w:World) (hp:PoV (·<w.heap.size) w a b c d p) (hs:PoS p) :
  Calls Tryd.prog 13 #[.agg (poL a b c d p).toArray] w fun e w'=>e = .returned (.tuple #[.string ⟨(printP p).1.toArray⟩,.int .i64 (printP p).2])∧Below w.heap.size w w':=by
 obtain ⟨pa,ca,rfl⟩:=hp.1.slc
 obtain ⟨pb,cb,rfl⟩:=hp.2.1.slc
 obtain ⟨pc,cc,rfl⟩:=hp.2.2.1.slc
 obtain ⟨pd,cd,rfl⟩:=hp.2.2.2.slc
 obtain ⟨nl,hnl⟩:∃ n,p.lv.length=n:=⟨_,rfl⟩
 obtain ⟨no,hno⟩:∃ n,p.od.length=n:=⟨_,rfl⟩
 obtain ⟨nc,hnc⟩:∃ n,p.ch.length=n:=⟨_,rfl⟩
 obtain ⟨ns,hns⟩:∃ n,p.st.length=n:=⟨_,rfl⟩
 rw [hnl,hno,hnc,hns] at hp ⊢
 have HLEN0:=hid hnl;have HLEN1:=hid hno;have HLEN2:=hid hnc;have HLEN3:=hid hns
 have HPP:=hid hp
 obtain ⟨ck,hck⟩:∃ k,checkP p=k:=⟨_,rfl⟩
 have HCK:=hid (fun W (hv:PoV (·<W.heap.size) W (.slice pa nl ca) (.slice pb no cb) (.slice pc nc cc) (.slice pd ns cd) p)=>show Calls Tryd.prog 14 #[.agg #[.slice pa nl ca,.slice pb no cb,.slice pc nc cc,.slice pd ns cd,.bool p.sens,.int .i64 p.steps,.int .i64 p.paths,.int .i64 p.nodes,.int .i64 p.conf]] W (fun e w'=>e = .returned (.int .i64 ck)∧Below W.heap.size W w') from by rw [← hck];exact rcheck_po p _ _ _ _ W hv hs)
 have HCV:=hid hck
 clear hp hnl hno hnc hns
 have hx0:BxL 26 w.heap.size [.slice pa nl ca,.slice pb no cb,.slice pc nc cc,.slice pd ns cd,.bool p.sens,.int .i64 p.steps,.int .i64 p.paths,.int .i64 p.nodes,.int .i64 p.conf] (w.alloc (.cells #[.slice pa nl ca,.slice pb no cb,.slice pc nc cc,.slice pd ns cd,.bool p.sens,.int .i64 p.steps,.int .i64 p.paths,.int .i64 p.nodes,.int .i64 p.conf] 26)):=BxL.new _ _ _
 have hb0:Below w.heap.size w (w.alloc (.cells #[.slice pa nl ca,.slice pb no cb,.slice pc nc cc,.slice pd ns cd,.bool p.sens,.int .i64 p.steps,.int .i64 p.paths,.int .i64 p.nodes,.int .i64 p.conf] 26)):=(Below.refl _ _).alloc (Nat.le_refl _) _
 have HX0:=hid hx0;have HB0:=hid hb0;have HV0:=hid (HPP.out.below hb0)
 clear hx0 hb0
 by_cases h0:ck=0
 rotate_left
 ·have t0:(ck != 0)=true:=by rw [bne_iff_ne];exact h0
  have HPR:=hid (show printP p=([],ck) from by unfold printP;rw [hck,if_pos h0])
  clear h0 hck
  go_enter Tryd.func13,Tryd.ntmps13
  go_wp2_with (go_at_call 14;(with_reducible refine (HCK.out _ HV0.out).mono ?_);rintro e w2 ⟨rfl,hb2⟩;have HB2:=hid (HB0.out.trans (hb2.mono HB0.out.size));clear hb2)
  go_ret2
  exact ⟨by rw [HPR.out];rfl,HB2.out⟩
 subst h0
 have hok:=(checkP_iff p).1 hck
 have HOK:=hid hok
 have HLV:=hid (fun s hs=>name_len (hok.lv.1 s hs))
 have HTOT:=hid (show nl≤32∧no≤1024∧nc≤32∧ns≤32 from ⟨HLEN0.out ▸ hok.len,HLEN1.out ▸ (lat_pairs hok.lat).1,HLEN2.out ▸ hok.ch.1,HLEN3.out ▸ hok.st.1⟩)
 have HPAIR:=hid (show ∀ o ∈ p.od,pairB nl o=true from HLEN0.out ▸ (lat_pairs hok.lat).2)
 have HBND2:=hid (show ∀ b ∈ p.ch,nameB b.1=true∧0≤b.2∧b.2<(nl:Int) from HLEN0.out ▸ hok.ch.2.1)
 have HBND3:=hid (show ∀ b ∈ p.st,nameB b.1=true∧0≤b.2∧b.2<(nl:Int) from HLEN0.out ▸ hok.st.2.1)
 have HNN:=hid (show nl≤32∧no≤1024∧nc≤32∧ns≤32 from HTOT.out)
 have HHL0:=hid (show ([]:List Bs).length≤0 from Nat.le_refl _)
 have HHL1:=hid (show (Q1 p).length≤32 from by have:=HTOT.out;have:=HLEN0.out;simp [Q1];omega)
 have HHL2:=hid (show (Q2 p).length≤1056 from by have:=HTOT.out;have:=HLEN0.out;have:=HLEN1.out;simp [Q2,Q1];omega)
 have HHL3:=hid (show (Q3 p).length≤1088 from by have:=HTOT.out;have:=HLEN0.out;have:=HLEN1.out;have:=HLEN2.out;simp [Q3,Q2,Q1];omega)
 clear hck hok
 go_enter Tryd.func13,Tryd.ntmps13
 go_upto_region 4 with (go_at_call 14;(with_reducible refine (HCK.out _ HV0.out).mono ?_);rintro e w1 ⟨rfl,hb2⟩;have HB1:=hid (HB0.out.trans (hb2.mono HB0.out.size));have HX1:=hid (HX0.out.bel hb2);have HP1:=hid (HV0.out.below hb2);clear hb2)
 go_wp2_with fail
 go_loopw [5,6] (fun lv iv wr=>∃ k:Nat,k≤nl∧iv = .int .i64 (k:Int)∧GA kStr w1.heap.size 9 wr lv ([]++(p.lv.take k).map fLv)∧Below w1.heap.size w1 wr) (fun _ iv _=>nl - (intOf iv).toNat)
 case atStart=>exact ⟨0,Nat.zero_le _,rfl,GA.nil _ _ _ _,Below.refl _ _⟩
 case round =>
  obtain ⟨k,hk,rfl,hga,hbr⟩:=hrel
  have HBR:=hid hbr
  have HXR:=hid (HX1.out.bel hbr)
  obtain ⟨n0,n1,n2,n3⟩:=HXR.out.p4
  clear hbr
  have hnl:=HNN.out
  by_cases hlt:k<nl
  ·have tlt:decide ((k:Int)<(nl:Int))=true:=decide_eq_true (by omega)
   have hkl:k<p.lv.length:=by rw [HLEN0.out];exact hlt
   have HSN:=hid (show []++(p.lv.take (k+1)).map fLv=([]++(p.lv.take k).map fLv)++[fLv p.lv[k]] from (take_snoc fLv ([]) p.lv k hkl).symm)
   obtain ⟨T,hT⟩:∃ T,[]++(p.lv.take k).map fLv=T:=⟨_,rfl⟩
   obtain ⟨NT,hNT⟩:∃ n,T.length=n:=⟨_,rfl⟩
   rw [hT] at hga HSN
   have HTL:=hid (show T.length+1≤2000 from by
    have h1:=HTOT.out
    rw [← hT,List.length_append,List.length_map,List.length_take];have h2:=HHL0.out;omega)
   obtain ⟨pv,cv,rfl⟩:=hga.slc
   rw [hNT] at hga ⊢
   have HGA:=hid hga
   clear hga hT hNT
   obtain ⟨b0,off,rfl,hR,hcells⟩:=str_at HP1.out.1 (by omega:0<p.lv.length)
   have c0:=(HBR.out.cell (p:=⟨b0,off+k,none⟩) hR).trans (hcells k hkl)
   clear hcells hR
   have HL32:=hid (HLV.out p.lv[k] (List.getElem_mem _))
   generalize p.lv[k]=y at *
   have hy32:=HL32.out
   obtain ⟨jy,hjy⟩:∃ j,fLv y=j:=⟨_,rfl⟩
   have hcat:=lv_catP y
   rw [hjy] at hcat HSN
   clear hjy
   go_wp2_with (at_builtin;refine wpList_push (K:=kStr) (x:=jy) (cs:=[.string (⟨jy.toArray⟩)]) (te:=9) rfl _ _ 22 rfl Tryd.underlying22 _ 16 info_strI rfl HGA.out rfl (by rfl) (by rfl) (by have:=HTL.out;omega) (by have:=HTL.out;unfold maxLen;omega) HBR.out.size ?_;intro v5 w5 hg5 hgr5 hm5;have HG5:=hid hg5;have HB5:=hid (below_push HGA.out HBR.out hgr5 HBR.out.size);clear hg5 hgr5 hm5)
   go_roundw
   case rel=>exact ⟨k+1,hlt,rfl,by rw [HSN.out];exact HG5.out,HB5.out⟩
   case measure=>simp [intOf];omega
  ·have eqk:nl=k:=by omega
   subst eqk
   have tlt:decide ((nl:Int)<(nl:Int))=false:=decide_eq_false (by omega)
   have HGL:=hid (show GA kStr w1.heap.size 9 wr _ (Q1 p) from by rw [List.take_of_length_le (by rw [HLEN0.out];exact Nat.le_refl _)] at hga;exact (by simpa [Q1] using hga))
   generalize wr=wq at *
   have HBL:=hid HBR.out
   clear hga hk hlt
   go_wp2_with fail
   go_loopw [5,7] (fun lv iv wr=>∃ k:Nat,k≤no∧iv = .int .i64 (k:Int)∧GA kStr w1.heap.size 9 wr lv (Q1 p++(p.od.take k).map (fOd p))∧Below w1.heap.size w1 wr) (fun _ iv _=>no - (intOf iv).toNat)
   case atStart=>exact ⟨0,Nat.zero_le _,rfl,by rw [List.take_zero,List.map_nil,List.append_nil];exact HGL.out,HBL.out⟩
   case round =>
    obtain ⟨k,hk,rfl,hga,hbr⟩:=hrel
    have HBR:=hid hbr
    have HXR:=hid (HX1.out.bel hbr)
    obtain ⟨n0,n1,n2,n3⟩:=HXR.out.p4
    clear hbr
    have hnl:=HNN.out
    by_cases hlt:k<no
    ·have tlt:decide ((k:Int)<(no:Int))=true:=decide_eq_true (by omega)
     have hkl:k<p.od.length:=by rw [HLEN1.out];exact hlt
     have HSN:=hid (show Q1 p++(p.od.take (k+1)).map (fOd p)=(Q1 p++(p.od.take k).map (fOd p))++[(fOd p) p.od[k]] from (take_snoc (fOd p) (Q1 p) p.od k hkl).symm)
     obtain ⟨T,hT⟩:∃ T,Q1 p++(p.od.take k).map (fOd p)=T:=⟨_,rfl⟩
     obtain ⟨NT,hNT⟩:∃ n,T.length=n:=⟨_,rfl⟩
     rw [hT] at hga HSN
     have HTL:=hid (show T.length+1≤2000 from by
      have h1:=HTOT.out
      rw [← hT,List.length_append,List.length_map,List.length_take];have h2:=HHL1.out;omega)
     obtain ⟨pv,cv,rfl⟩:=hga.slc
     rw [hNT] at hga ⊢
     have HGA:=hid hga
     clear hga hT hNT
     obtain ⟨vb,off,rfl,hR,hcells⟩:=pair_at HP1.out.2.1 (by omega:0<p.od.length)
     obtain ⟨c0,c1⟩:=hcells k hkl
     have d0:=c0
     have d1:=c1
     clear hcells hR c0 c1
     obtain ⟨p1,p2,p3,p4⟩:=pair_true (HPAIR.out p.od[k] (List.getElem_mem _))
     obtain ⟨⟨za,zb⟩,hz⟩:∃ z,p.od[k]=z:=⟨_,rfl⟩
     rw [hz] at d0 d1 p1 p2 p3 p4 HSN
     simp only at d0 d1 p1 p2 p3 p4
     obtain ⟨i,hi⟩:∃ a:Nat,za=(a:Int):=⟨za.toNat,by omega⟩
     obtain ⟨j,hj⟩:∃ a:Nat,zb=(a:Int):=⟨zb.toNat,by omega⟩
     subst hi hj
     have hin:i<nl:=by omega
     have hjn:j<nl:=by omega
     clear p1 p2 p3 p4 hz
     have hil:i<p.lv.length:=by rw [HLEN0.out];exact hin
     have hjl:j<p.lv.length:=by rw [HLEN0.out];exact hjn
     obtain ⟨b0,off0,rfl,hR0,hc0⟩:=str_at HP1.out.1 (by have:=HLEN0.out;omega:0<p.lv.length)
     have e0:=hc0 i hil
     have e1:=hc0 j hjl
     have hl1:=HLV.out p.lv[i] (List.getElem_mem _)
     have hl2:=HLV.out p.lv[j] (List.getElem_mem _)
     obtain ⟨li,hli⟩:∃ s,p.lv[i]=s:=⟨_,rfl⟩
     obtain ⟨lj,hlj⟩:∃ s,p.lv[j]=s:=⟨_,rfl⟩
     rw [hli] at e0 hl1
     rw [hlj] at e1 hl2
     have hjq:fOd p ((i:Int),(j:Int))=jn [kOrder,li,lj]:=by
      have g1:p.lv.getD i []=li:=by rw [List.getD_eq_getElem?_getD,List.getElem?_eq_getElem hil,hli];rfl
      have g2:p.lv.getD j []=lj:=by rw [List.getD_eq_getElem?_getD,List.getElem?_eq_getElem hjl,hlj];rfl
      unfold fOd;show jn [kOrder,p.lv.getD i [],p.lv.getD j []]=_;rw [g1,g2]
     have hcat:=c3_1 li lj
     obtain ⟨jy,hjy⟩:∃ j,jn [kOrder,li,lj]=j:=⟨_,rfl⟩
     rw [hjq,hjy] at HSN
     rw [hjy] at hcat
     clear hjq hjy
     clear hli hlj hc0 hR0
     go_upto_region 12 with fail
     have HSW:=hid (show ∀ W,Below w1.heap.size w1 W→(fun W:World=>W.cell? ⟨w.heap.size,0,none⟩=some (.slice (some ⟨b0,off0,none⟩) nl ca)∧W.cell? ⟨w.heap.size,1,none⟩=some (.slice (some ⟨vb,off,none⟩) no cb)∧W.cell? ⟨vb,off+k*2,none⟩=some (.int .i64 (i:Int))∧W.cell? ⟨vb,off+k*2+1,none⟩=some (.int .i64 (j:Int))∧W.cell? ⟨b0,off0+i,none⟩=some (.string ⟨li.toArray⟩)∧W.cell? ⟨b0,off0+j,none⟩=some (.string ⟨lj.toArray⟩)) W from fun W hB=>⟨sbB hB (HX1.out.at 0 rfl),sbB hB (HX1.out.at 1 rfl),sbB hB d0,sbB hB d1,sbB hB e0,sbB hB e1⟩)
     clear d0 d1 e0 e1
     have hS:(fun W:World=>W.cell? ⟨w.heap.size,0,none⟩=some (.slice (some ⟨b0,off0,none⟩) nl ca)∧W.cell? ⟨w.heap.size,1,none⟩=some (.slice (some ⟨vb,off,none⟩) no cb)∧W.cell? ⟨vb,off+k*2,none⟩=some (.int .i64 (i:Int))∧W.cell? ⟨vb,off+k*2+1,none⟩=some (.int .i64 (j:Int))∧W.cell? ⟨b0,off0+i,none⟩=some (.string ⟨li.toArray⟩)∧W.cell? ⟨b0,off0+j,none⟩=some (.string ⟨lj.toArray⟩)) wr.drew:=HSW.out _ HBR.out.drew
     have hFa:=fT
     refine rgN (fun W:World=>W.cell? ⟨w.heap.size,0,none⟩=some (.slice (some ⟨b0,off0,none⟩) nl ca)∧W.cell? ⟨w.heap.size,1,none⟩=some (.slice (some ⟨vb,off,none⟩) no cb)∧W.cell? ⟨vb,off+k*2,none⟩=some (.int .i64 (i:Int))∧W.cell? ⟨vb,off+k*2+1,none⟩=some (.int .i64 (j:Int))∧W.cell? ⟨b0,off0+i,none⟩=some (.string ⟨li.toArray⟩)∧W.cell? ⟨b0,off0+j,none⟩=some (.string ⟨lj.toArray⟩)) 26 (by kernel_rfl) ?_
     simp only [List.size_toArray,List.length_cons,List.length_nil,Nat.reduceAdd]
     iterate 24 (refine wpHJ_nx (v:=?_) 27 rfl rfl (by kernel_rfl) nE hS ?_ ?_;rotate_left;(focus refine Or.inl ⟨by rfl,?_⟩;rintro w' ⟨s0,s1,s2,s3,s4,s5⟩;(try go_simp);(try rw [if_neg (by omega)]);try rfl);simp only [Act.put,actP,actQ])
     refine wpHJ_only 24 (by kernel_rfl) rfl (fun K hK=>?_)
     go_simp
     obtain ⟨wb,hwb⟩:∃ W,(wr.alloc (.cells #[.string (⟨jy.toArray⟩)] 9)).drew=W:=⟨_,rfl⟩
     have hbb:Below wr.heap.size wr wb:=by rw [← hwb];exact ((Below.refl _ _).alloc (Nat.le_refl _) _).drew
     have HBb:=hid (HBR.out.trans (hbb.mono HBR.out.size))
     have HGb:=hid (HGA.out.keep hbb)
     have HYb:=hid (show BxL 9 wr.heap.size [.string (⟨jy.toArray⟩)] wb from by rw [← hwb];exact BxL.new 9 wr _)
     rw [hwb]
     clear hwb hbb
     have hSb:=HSW.out _ HBb.out
     refine hK _ _ (.inr (.inr hSb)) ?_
     clear hK K
     refine wpHJ_only 25 (by kernel_rfl) rfl (fun K hK=>?_)
     refine wpIn_pushB (R:=NoR) (B:=w1.heap.size) (K:=kStr) (v := .slice pv NT cv) (l:=T) (x:=jy) (cs:=[.string (⟨jy.toArray⟩)]) (te:=9) hFa (.tmp 44) (.tmp 68) 22 rfl Tryd.underlying22 _ 16 info_strI rfl HGb.out.gr (fun i hi=>hi.elim) (rfl) HYb.out (by rfl) (by rfl) (by have:=HTL.out;omega) (by have:=HTL.out;unfold maxLen;omega) HBb.out.size ?_
     intro v5 w5 hg5 hgr5 hm5
     have HG5:=hid hg5.ga5
     have HB5:=hid (below_grown HBb.out hgr5 (fun q hq=>(HGb.out.lt q hq).1) HBb.out.size)
     clear hg5 hgr5 hm5
     have hS5:=HSW.out _ HB5.out
     refine hK _ _ (.inr (.inr hS5)) ?_
     clear hK K
     refine wpHJ_only 26 (by kernel_rfl) rfl (fun K hK=>?_)
     go_simp
     refine hK _ _ (.inl rfl) ?_
     clear hK K
     refine wpHJ_done (by kernel_rfl) ?_ _
     simp only [onlyN,Exit.then]
     clear hFa
     clear hS
     go_wp2_with fail
     go_roundw
     case rel=>exact ⟨k+1,hlt,rfl,by rw [HSN.out];exact HG5.out,HB5.out⟩
     case measure=>simp [intOf];omega
    ·have eqk:no=k:=by omega
     subst eqk
     have tlt:decide ((no:Int)<(no:Int))=false:=decide_eq_false (by omega)
     have HGL:=hid (show GA kStr w1.heap.size 9 wr _ (Q2 p) from by rw [List.take_of_length_le (by rw [HLEN1.out];exact Nat.le_refl _)] at hga;exact hga)
     generalize wr=wq at *
     have HBL:=hid HBR.out
     clear hga hk hlt
     go_wp2_with fail
     go_loopw [5,8] (fun lv iv wr=>∃ k:Nat,k≤nc∧iv = .int .i64 (k:Int)∧GA kStr w1.heap.size 9 wr lv (Q2 p++(p.ch.take k).map (fBd p kChan))∧Below w1.heap.size w1 wr) (fun _ iv _=>nc - (intOf iv).toNat)
     case atStart=>exact ⟨0,Nat.zero_le _,rfl,by rw [List.take_zero,List.map_nil,List.append_nil];exact HGL.out,HBL.out⟩
     case round =>
      obtain ⟨k,hk,rfl,hga,hbr⟩:=hrel
      have HBR:=hid hbr
      have HXR:=hid (HX1.out.bel hbr)
      obtain ⟨n0,n1,n2,n3⟩:=HXR.out.p4
      clear hbr
      have hnl:=HNN.out
      by_cases hlt:k<nc
      ·have tlt:decide ((k:Int)<(nc:Int))=true:=decide_eq_true (by omega)
       have hkl:k<p.ch.length:=by rw [HLEN2.out];exact hlt
       have HSN:=hid (show Q2 p++(p.ch.take (k+1)).map (fBd p kChan)=(Q2 p++(p.ch.take k).map (fBd p kChan))++[(fBd p kChan) p.ch[k]] from (take_snoc (fBd p kChan) (Q2 p) p.ch k hkl).symm)
       obtain ⟨T,hT⟩:∃ T,Q2 p++(p.ch.take k).map (fBd p kChan)=T:=⟨_,rfl⟩
       obtain ⟨NT,hNT⟩:∃ n,T.length=n:=⟨_,rfl⟩
       rw [hT] at hga HSN
       have HTL:=hid (show T.length+1≤2000 from by
        have h1:=HTOT.out
        rw [← hT,List.length_append,List.length_map,List.length_take];have h2:=HHL2.out;omega)
       obtain ⟨pv,cv,rfl⟩:=hga.slc
       rw [hNT] at hga ⊢
       have HGA:=hid hga
       clear hga hT hNT
       obtain ⟨vb,off,rfl,hR,hcells⟩:=bind_at HP1.out.2.2.1 (by omega:0<p.ch.length)
       obtain ⟨c0,c1⟩:=hcells k hkl
       have d0:=c0
       have d1:=c1
       clear hcells hR c0 c1
       have hbb:=HBND2.out p.ch[k] (List.getElem_mem _)
       obtain ⟨⟨fs,fz⟩,hz⟩:∃ z,p.ch[k]=z:=⟨_,rfl⟩
       rw [hz] at d0 d1 hbb HSN
       simp only at d0 d1 hbb
       obtain ⟨hb1,hb2,hb3⟩:=hbb
       obtain ⟨i,hi⟩:∃ a:Nat,fz=(a:Int):=⟨fz.toNat,by omega⟩
       subst hi
       have hin:i<nl:=by omega
       have hfl:=name_len hb1
       clear hb1 hb2 hb3 hz
       have hil:i<p.lv.length:=by rw [HLEN0.out];exact hin
       obtain ⟨b0,off0,rfl,hR0,hc0⟩:=str_at HP1.out.1 (by have:=HLEN0.out;omega:0<p.lv.length)
       have e0:=hc0 i hil
       have hl1:=HLV.out p.lv[i] (List.getElem_mem _)
       obtain ⟨li,hli⟩:∃ s,p.lv[i]=s:=⟨_,rfl⟩
       rw [hli] at e0 hl1
       have hjq:fBd p kChan (fs,(i:Int))=jn [kChan,fs,li]:=by
        have g1:p.lv.getD i []=li:=by rw [List.getD_eq_getElem?_getD,List.getElem?_eq_getElem hil,hli];rfl
        unfold fBd;show jn [kChan,fs,p.lv.getD i []]=_;rw [g1]
       have hcat:=c3_2 fs li
       obtain ⟨jy,hjy⟩:∃ j,jn [kChan,fs,li]=j:=⟨_,rfl⟩
       rw [hjq,hjy] at HSN
       rw [hjy] at hcat
       clear hjq hjy
       clear hli hc0 hR0
       go_upto_region 16 with fail
       have HSW:=hid (show ∀ W,Below w1.heap.size w1 W→(fun W:World=>W.cell? ⟨w.heap.size,0,none⟩=some (.slice (some ⟨b0,off0,none⟩) nl ca)∧W.cell? ⟨w.heap.size,2,none⟩=some (.slice (some ⟨vb,off,none⟩) nc cc)∧W.cell? ⟨vb,off+k*2,none⟩=some (.string ⟨fs.toArray⟩)∧W.cell? ⟨vb,off+k*2+1,none⟩=some (.int .i64 (i:Int))∧W.cell? ⟨b0,off0+i,none⟩=some (.string ⟨li.toArray⟩)) W from fun W hB=>⟨sbB hB (HX1.out.at 0 rfl),sbB hB (HX1.out.at 2 rfl),sbB hB d0,sbB hB d1,sbB hB e0⟩)
       clear d0 d1 e0
       have hS:(fun W:World=>W.cell? ⟨w.heap.size,0,none⟩=some (.slice (some ⟨b0,off0,none⟩) nl ca)∧W.cell? ⟨w.heap.size,2,none⟩=some (.slice (some ⟨vb,off,none⟩) nc cc)∧W.cell? ⟨vb,off+k*2,none⟩=some (.string ⟨fs.toArray⟩)∧W.cell? ⟨vb,off+k*2+1,none⟩=some (.int .i64 (i:Int))∧W.cell? ⟨b0,off0+i,none⟩=some (.string ⟨li.toArray⟩)) wr.drew:=HSW.out _ HBR.out.drew
       have hFa:=fT
       refine rgN (fun W:World=>W.cell? ⟨w.heap.size,0,none⟩=some (.slice (some ⟨b0,off0,none⟩) nl ca)∧W.cell? ⟨w.heap.size,2,none⟩=some (.slice (some ⟨vb,off,none⟩) nc cc)∧W.cell? ⟨vb,off+k*2,none⟩=some (.string ⟨fs.toArray⟩)∧W.cell? ⟨vb,off+k*2+1,none⟩=some (.int .i64 (i:Int))∧W.cell? ⟨b0,off0+i,none⟩=some (.string ⟨li.toArray⟩)) 22 (by kernel_rfl) ?_
       simp only [List.size_toArray,List.length_cons,List.length_nil,Nat.reduceAdd]
       iterate 20 (refine wpHJ_nx (v:=?_) 23 rfl rfl (by kernel_rfl) nE hS ?_ ?_;rotate_left;(focus refine Or.inl ⟨by rfl,?_⟩;rintro w' ⟨s0,s1,s2,s3,s4⟩;(try go_simp);(try rw [if_neg (by omega)]);try rfl);simp only [Act.put,actP,actQ])
       refine wpHJ_only 20 (by kernel_rfl) rfl (fun K hK=>?_)
       go_simp
       obtain ⟨wb,hwb⟩:∃ W,(wr.alloc (.cells #[.string (⟨jy.toArray⟩)] 9)).drew=W:=⟨_,rfl⟩
       have hbb:Below wr.heap.size wr wb:=by rw [← hwb];exact ((Below.refl _ _).alloc (Nat.le_refl _) _).drew
       have HBb:=hid (HBR.out.trans (hbb.mono HBR.out.size))
       have HGb:=hid (HGA.out.keep hbb)
       have HYb:=hid (show BxL 9 wr.heap.size [.string (⟨jy.toArray⟩)] wb from by rw [← hwb];exact BxL.new 9 wr _)
       rw [hwb]
       clear hwb hbb
       have hSb:=HSW.out _ HBb.out
       refine hK _ _ (.inr (.inr hSb)) ?_
       clear hK K
       refine wpHJ_only 21 (by kernel_rfl) rfl (fun K hK=>?_)
       refine wpIn_pushB (R:=NoR) (B:=w1.heap.size) (K:=kStr) (v := .slice pv NT cv) (l:=T) (x:=jy) (cs:=[.string (⟨jy.toArray⟩)]) (te:=9) hFa (.tmp 77) (.tmp 97) 22 rfl Tryd.underlying22 _ 16 info_strI rfl HGb.out.gr (fun i hi=>hi.elim) (rfl) HYb.out (by rfl) (by rfl) (by have:=HTL.out;omega) (by have:=HTL.out;unfold maxLen;omega) HBb.out.size ?_
       intro v5 w5 hg5 hgr5 hm5
       have HG5:=hid hg5.ga5
       have HB5:=hid (below_grown HBb.out hgr5 (fun q hq=>(HGb.out.lt q hq).1) HBb.out.size)
       clear hg5 hgr5 hm5
       have hS5:=HSW.out _ HB5.out
       refine hK _ _ (.inr (.inr hS5)) ?_
       clear hK K
       refine wpHJ_only 22 (by kernel_rfl) rfl (fun K hK=>?_)
       go_simp
       refine hK _ _ (.inl rfl) ?_
       clear hK K
       refine wpHJ_done (by kernel_rfl) ?_ _
       simp only [onlyN,Exit.then]
       clear hFa
       clear hS
       go_wp2_with fail
       go_roundw
       case rel=>exact ⟨k+1,hlt,rfl,by rw [HSN.out];exact HG5.out,HB5.out⟩
       case measure=>simp [intOf];omega
      ·have eqk:nc=k:=by omega
       subst eqk
       have tlt:decide ((nc:Int)<(nc:Int))=false:=decide_eq_false (by omega)
       have HGL:=hid (show GA kStr w1.heap.size 9 wr _ (Q3 p) from by rw [List.take_of_length_le (by rw [HLEN2.out];exact Nat.le_refl _)] at hga;exact hga)
       generalize wr=wq at *
       have HBL:=hid HBR.out
       clear hga hk hlt
       go_wp2_with fail
       go_loopw [5,9] (fun lv iv wr=>∃ k:Nat,k≤ns∧iv = .int .i64 (k:Int)∧GA kStr w1.heap.size 9 wr lv (Q3 p++(p.st.take k).map (fBd p kSite))∧Below w1.heap.size w1 wr) (fun _ iv _=>ns - (intOf iv).toNat)
       case atStart=>exact ⟨0,Nat.zero_le _,rfl,by rw [List.take_zero,List.map_nil,List.append_nil];exact HGL.out,HBL.out⟩
       case round =>
        obtain ⟨k,hk,rfl,hga,hbr⟩:=hrel
        have HBR:=hid hbr
        have HXR:=hid (HX1.out.bel hbr)
        obtain ⟨n0,n1,n2,n3⟩:=HXR.out.p4
        clear hbr
        have hnl:=HNN.out
        by_cases hlt:k<ns
        ·have tlt:decide ((k:Int)<(ns:Int))=true:=decide_eq_true (by omega)
         have hkl:k<p.st.length:=by rw [HLEN3.out];exact hlt
         have HSN:=hid (show Q3 p++(p.st.take (k+1)).map (fBd p kSite)=(Q3 p++(p.st.take k).map (fBd p kSite))++[(fBd p kSite) p.st[k]] from (take_snoc (fBd p kSite) (Q3 p) p.st k hkl).symm)
         obtain ⟨T,hT⟩:∃ T,Q3 p++(p.st.take k).map (fBd p kSite)=T:=⟨_,rfl⟩
         obtain ⟨NT,hNT⟩:∃ n,T.length=n:=⟨_,rfl⟩
         rw [hT] at hga HSN
         have HTL:=hid (show T.length+1≤2000 from by
          have h1:=HTOT.out
          rw [← hT,List.length_append,List.length_map,List.length_take];have h2:=HHL3.out;omega)
         obtain ⟨pv,cv,rfl⟩:=hga.slc
         rw [hNT] at hga ⊢
         have HGA:=hid hga
         clear hga hT hNT
         obtain ⟨vb,off,rfl,hR,hcells⟩:=bind_at HP1.out.2.2.2 (by omega:0<p.st.length)
         obtain ⟨c0,c1⟩:=hcells k hkl
         have d0:=c0
         have d1:=c1
         clear hcells hR c0 c1
         have hbb:=HBND3.out p.st[k] (List.getElem_mem _)
         obtain ⟨⟨fs,fz⟩,hz⟩:∃ z,p.st[k]=z:=⟨_,rfl⟩
         rw [hz] at d0 d1 hbb HSN
         simp only at d0 d1 hbb
         obtain ⟨hb1,hb2,hb3⟩:=hbb
         obtain ⟨i,hi⟩:∃ a:Nat,fz=(a:Int):=⟨fz.toNat,by omega⟩
         subst hi
         have hin:i<nl:=by omega
         have hfl:=name_len hb1
         clear hb1 hb2 hb3 hz
         have hil:i<p.lv.length:=by rw [HLEN0.out];exact hin
         obtain ⟨b0,off0,rfl,hR0,hc0⟩:=str_at HP1.out.1 (by have:=HLEN0.out;omega:0<p.lv.length)
         have e0:=hc0 i hil
         have hl1:=HLV.out p.lv[i] (List.getElem_mem _)
         obtain ⟨li,hli⟩:∃ s,p.lv[i]=s:=⟨_,rfl⟩
         rw [hli] at e0 hl1
         have hjq:fBd p kSite (fs,(i:Int))=jn [kSite,fs,li]:=by
          have g1:p.lv.getD i []=li:=by rw [List.getD_eq_getElem?_getD,List.getElem?_eq_getElem hil,hli];rfl
          unfold fBd;show jn [kSite,fs,p.lv.getD i []]=_;rw [g1]
         have hcat:=c3_3 fs li
         obtain ⟨jy,hjy⟩:∃ j,jn [kSite,fs,li]=j:=⟨_,rfl⟩
         rw [hjq,hjy] at HSN
         rw [hjy] at hcat
         clear hjq hjy
         clear hli hc0 hR0
         go_upto_region 20 with fail
         have HSW:=hid (show ∀ W,Below w1.heap.size w1 W→(fun W:World=>W.cell? ⟨w.heap.size,0,none⟩=some (.slice (some ⟨b0,off0,none⟩) nl ca)∧W.cell? ⟨w.heap.size,3,none⟩=some (.slice (some ⟨vb,off,none⟩) ns cd)∧W.cell? ⟨vb,off+k*2,none⟩=some (.string ⟨fs.toArray⟩)∧W.cell? ⟨vb,off+k*2+1,none⟩=some (.int .i64 (i:Int))∧W.cell? ⟨b0,off0+i,none⟩=some (.string ⟨li.toArray⟩)) W from fun W hB=>⟨sbB hB (HX1.out.at 0 rfl),sbB hB (HX1.out.at 3 rfl),sbB hB d0,sbB hB d1,sbB hB e0⟩)
         clear d0 d1 e0
         have hS:(fun W:World=>W.cell? ⟨w.heap.size,0,none⟩=some (.slice (some ⟨b0,off0,none⟩) nl ca)∧W.cell? ⟨w.heap.size,3,none⟩=some (.slice (some ⟨vb,off,none⟩) ns cd)∧W.cell? ⟨vb,off+k*2,none⟩=some (.string ⟨fs.toArray⟩)∧W.cell? ⟨vb,off+k*2+1,none⟩=some (.int .i64 (i:Int))∧W.cell? ⟨b0,off0+i,none⟩=some (.string ⟨li.toArray⟩)) wr.drew:=HSW.out _ HBR.out.drew
         have hFa:=fT
         refine rgN (fun W:World=>W.cell? ⟨w.heap.size,0,none⟩=some (.slice (some ⟨b0,off0,none⟩) nl ca)∧W.cell? ⟨w.heap.size,3,none⟩=some (.slice (some ⟨vb,off,none⟩) ns cd)∧W.cell? ⟨vb,off+k*2,none⟩=some (.string ⟨fs.toArray⟩)∧W.cell? ⟨vb,off+k*2+1,none⟩=some (.int .i64 (i:Int))∧W.cell? ⟨b0,off0+i,none⟩=some (.string ⟨li.toArray⟩)) 22 (by kernel_rfl) ?_
         simp only [List.size_toArray,List.length_cons,List.length_nil,Nat.reduceAdd]
         iterate 20 (refine wpHJ_nx (v:=?_) 23 rfl rfl (by kernel_rfl) nE hS ?_ ?_;rotate_left;(focus refine Or.inl ⟨by rfl,?_⟩;rintro w' ⟨s0,s1,s2,s3,s4⟩;(try go_simp);(try rw [if_neg (by omega)]);try rfl);simp only [Act.put,actP,actQ])
         refine wpHJ_only 20 (by kernel_rfl) rfl (fun K hK=>?_)
         go_simp
         obtain ⟨wb,hwb⟩:∃ W,(wr.alloc (.cells #[.string (⟨jy.toArray⟩)] 9)).drew=W:=⟨_,rfl⟩
         have hbb:Below wr.heap.size wr wb:=by rw [← hwb];exact ((Below.refl _ _).alloc (Nat.le_refl _) _).drew
         have HBb:=hid (HBR.out.trans (hbb.mono HBR.out.size))
         have HGb:=hid (HGA.out.keep hbb)
         have HYb:=hid (show BxL 9 wr.heap.size [.string (⟨jy.toArray⟩)] wb from by rw [← hwb];exact BxL.new 9 wr _)
         rw [hwb]
         clear hwb hbb
         have hSb:=HSW.out _ HBb.out
         refine hK _ _ (.inr (.inr hSb)) ?_
         clear hK K
         refine wpHJ_only 21 (by kernel_rfl) rfl (fun K hK=>?_)
         refine wpIn_pushB (R:=NoR) (B:=w1.heap.size) (K:=kStr) (v := .slice pv NT cv) (l:=T) (x:=jy) (cs:=[.string (⟨jy.toArray⟩)]) (te:=9) hFa (.tmp 106) (.tmp 126) 22 rfl Tryd.underlying22 _ 16 info_strI rfl HGb.out.gr (fun i hi=>hi.elim) (rfl) HYb.out (by rfl) (by rfl) (by have:=HTL.out;omega) (by have:=HTL.out;unfold maxLen;omega) HBb.out.size ?_
         intro v5 w5 hg5 hgr5 hm5
         have HG5:=hid hg5.ga5
         have HB5:=hid (below_grown HBb.out hgr5 (fun q hq=>(HGb.out.lt q hq).1) HBb.out.size)
         clear hg5 hgr5 hm5
         have hS5:=HSW.out _ HB5.out
         refine hK _ _ (.inr (.inr hS5)) ?_
         clear hK K
         refine wpHJ_only 22 (by kernel_rfl) rfl (fun K hK=>?_)
         go_simp
         refine hK _ _ (.inl rfl) ?_
         clear hK K
         refine wpHJ_done (by kernel_rfl) ?_ _
         simp only [onlyN,Exit.then]
         clear hFa
         clear hS
         go_wp2_with fail
         go_roundw
         case rel=>exact ⟨k+1,hlt,rfl,by rw [HSN.out];exact HG5.out,HB5.out⟩
         case measure=>simp [intOf];omega
        ·have eqk:ns=k:=by omega
         subst eqk
         have tlt:decide ((ns:Int)<(ns:Int))=false:=decide_eq_false (by omega)
         have HGL4:=hid (show GA kStr w1.heap.size 9 wr _ (Q4 p) from by rw [List.take_of_length_le (by rw [HLEN3.out];exact Nat.le_refl _)] at hga;exact hga)
         generalize wr=wq at *
         have HBL4:=hid HBR.out
         clear hga hk hlt
         obtain hse | hse:p.sens=true∨p.sens=false:=by cases p.sens <;> simp
         ·have HSE:=hid hse
          have n4:wq.cell? ⟨w.heap.size,4,none⟩=some (.bool true):=by rw [(HX1.out.bel HBL4.out).at 4 rfl,hse]
          clear hse
          obtain ⟨pv,cv,hsl⟩:=HGL4.out.slc
          subst hsl
          have HQL:=hid (show (Q4 p).length≤1200 from by have:=HTOT.out;have:=HLEN0.out;have:=HLEN1.out;have:=HLEN2.out;have:=HLEN3.out;simp [Q4,Q3,Q2,Q1];omega)
          have HMD:=hid (show M0 p=Q4 p++[jn [kMode,if p.sens then kSens else kInsens]] from rfl)
          have HQM:=hid (show M0 p=Q4 p++[[109,111,100,101,32,115,101,110,115,105,116,105,118,101]] from by unfold M0;rw [HSE.out];rfl)
          have HML:=hid (show (M0 p).length≤1201 from by rw [HMD.out,List.length_append];have:=HQL.out;show _+1≤_;omega)
          obtain ⟨T,hT⟩:∃ T,Q4 p=T:=⟨_,rfl⟩
          obtain ⟨M,hM⟩:∃ T,M0 p=T:=⟨_,rfl⟩
          obtain ⟨NT,hNT⟩:∃ n,T.length=n:=⟨_,rfl⟩
          have HGA:=hid (show GA kStr w1.heap.size 9 wq (.slice pv NT cv) T from by have:=HGL4.out;rw [hT,hNT] at this;exact this)
          rw [hT,hM] at HQM
          rw [hM] at HMD HML
          have HTL:=hid (show T.length+1≤2000 from by rw [← hT];have:=HQL.out;omega)
          rw [hT,hNT]
          clear HGL4 hT hM hNT
          have HBR:=hid HBL4.out
          go_upto_region 25 with (at_builtin;refine wpList_push (K:=kStr) (x:=[109,111,100,101,32,115,101,110,115,105,116,105,118,101]) (cs:=[.string (⟨#[109,111,100,101,32,115,101,110,115,105,116,105,118,101]⟩)]) (te:=9) rfl _ _ 22 rfl Tryd.underlying22 _ 16 info_strI rfl HGA.out rfl (by rfl) (by rfl) (by have:=HTL.out;omega) (by have:=HTL.out;unfold maxLen;omega) HBR.out.size ?_;intro v5 w5 hg5 hgr5 hm5;have HG5:=hid hg5;have HB5:=hid (below_push HGA.out HBR.out hgr5 HBR.out.size);clear hg5 hgr5 hm5)
          clear n4
          go_upto_region 26 with fail
          obtain ⟨ws,hws⟩:∃ l:List Value,[.string ⟨#[115,116,101,112,115]⟩,.string ⟨#[112,97,116,104,115]⟩,.string ⟨#[110,111,100,101,115]⟩,.string ⟨#[99,111,110,102,108,105,99,116,115]⟩]=l:=⟨_,rfl⟩
          obtain ⟨zs,hzs⟩:∃ l:List Value,[.int .i64 p.steps,.int .i64 p.paths,.int .i64 p.nodes,.int .i64 p.conf]=l:=⟨_,rfl⟩
          have HWK:=hid (show ∀ k (h:k<(plP p).length),ws[k]?=some (.string ⟨(plP p)[k].1.toArray⟩)∧zs[k]?=some (.int .i64 (plP p)[k].2) from by
           intro k h
           rw [← hws,← hzs]
           have h':k<4:=h
           have:k=0∨k=1∨k=2∨k=3:=by omega
           rcases this with rfl | rfl | rfl | rfl <;> exact ⟨rfl,rfl⟩)
          have HRG:=hid (show ∀ x ∈ plP p,0≤x.2∧x.2≤1099511627776∧x.1.length≤32 from by
           have hr:=HOK.out.rg
           unfold rangeB at hr
           simp only [Bool.and_eq_true,decide_eq_true_eq] at hr
           intro x hx
           have hl:kSteps.length≤32∧kPaths.length≤32∧kNodes.length≤32∧kConf.length≤32:=by decide
           simp only [plP,List.mem_cons,List.not_mem_nil,or_false] at hx
           rcases hx with rfl | rfl | rfl | rfl <;> (simp only;omega))
          have HQW:=hid (show BxL 9 w5.heap.size ws (w5.alloc (.cells #[.string ⟨#[115,116,101,112,115]⟩,.string ⟨#[112,97,116,104,115]⟩,.string ⟨#[110,111,100,101,115]⟩,.string ⟨#[99,111,110,102,108,105,99,116,115]⟩] 9)) from by rw [← hws];exact BxL.new _ _ _)
          have hbo:Below w5.heap.size w5 (w5.alloc (.cells #[.string ⟨#[115,116,101,112,115]⟩,.string ⟨#[112,97,116,104,115]⟩,.string ⟨#[110,111,100,101,115]⟩,.string ⟨#[99,111,110,102,108,105,99,116,115]⟩] 9)):=(Below.refl _ _).alloc (Nat.le_refl _) _
          have HBo:=hid (HB5.out.trans (hbo.mono HB5.out.size))
          have HGo:=hid (HG5.out.keep hbo)
          obtain ⟨q,hq⟩:∃ n,w5.heap.size=n:=⟨_,rfl⟩
          obtain ⟨wo,hwo⟩:∃ W,w5.alloc (.cells #[.string ⟨#[115,116,101,112,115]⟩,.string ⟨#[112,97,116,104,115]⟩,.string ⟨#[110,111,100,101,115]⟩,.string ⟨#[99,111,110,102,108,105,99,116,115]⟩] 9)=W:=⟨_,rfl⟩
          have HOW:=hid (show ∀ k,v5.ownBlock=some k→k<q from fun k hk=>by rw [← hq];exact (HG5.out.lt k hk).2)
          rw [hwo] at HBo HGo HQW ⊢
          rw [hq] at HQW ⊢
          clear hwo hq hbo HG5 HB5 hws
          generalize v5=vm at *
          have hxo:=hid (HX1.out.bel HBo.out)
          have n5:wo.cell? ⟨w.heap.size,5,none⟩=some (.int .i64 p.steps):=hxo.out.at 5 rfl
          have n6:wo.cell? ⟨w.heap.size,6,none⟩=some (.int .i64 p.paths):=hxo.out.at 6 rfl
          have n7:wo.cell? ⟨w.heap.size,7,none⟩=some (.int .i64 p.nodes):=hxo.out.at 7 rfl
          have n8:wo.cell? ⟨w.heap.size,8,none⟩=some (.int .i64 p.conf):=hxo.out.at 8 rfl
          go_upto_region 27 with fail
          clear n5 n6 n7 n8 hxo
          have hbo:Below wo.heap.size wo (wo.alloc (.cells zs.toArray 3)):=(Below.refl _ _).alloc (Nat.le_refl _) _
          have HSP6:=hid (show Sp q wo.heap.size ws zs vm (wo.alloc (.cells zs.toArray 3)) from ⟨HQW.out.bel hbo,BxL.new _ _ _,fun k hk=>by have h1:=HOW.out k hk;have h2:=HQW.out.lt;exact ⟨by omega,by omega⟩⟩)
          have HB6:=hid (HBo.out.trans (hbo.mono HBo.out.size))
          have HG6:=hid (show GA kStr w1.heap.size 9 (wo.alloc (.cells zs.toArray 3)) vm M from by rw [HQM.out];exact HGo.out.keep hbo)
          obtain ⟨q2,hq2⟩:∃ n,wo.heap.size=n:=⟨_,rfl⟩
          obtain ⟨wp,hwp⟩:∃ W,wo.alloc (.cells zs.toArray 3)=W:=⟨_,rfl⟩
          rw [hwp] at HSP6 HB6 HG6 ⊢
          rw [hq2] at HSP6 ⊢
          clear hwp hq2 hbo HGo HBo HQW hzs
          go_wp2_with fail
          go_loopw [5,13] (fun lv iv wr=>∃ k:Nat,k≤4∧iv = .int .i64 (k:Int)∧GA kStr w1.heap.size 9 wr lv (M++((plP p).take k).map fNm)∧Below w1.heap.size w1 wr∧Sp q q2 ws zs lv wr) (fun _ iv _=>4 - (intOf iv).toNat)
          case atStart=>exact ⟨0,Nat.zero_le _,rfl,by rw [List.take_zero,List.map_nil,List.append_nil];exact HG6.out,HB6.out,HSP6.out⟩
          case round =>
           obtain ⟨k,hk,rfl,hga,hbr,hsp⟩:=hrel
           have HBR:=hid hbr
           clear hbr
           by_cases hlt:k<4
           ·have tlt:decide ((k:Int)<4)=true:=decide_eq_true (by omega)
            have hkl:k<(plP p).length:=hlt
            have hk4:(k:Int)<4:=by omega
            have HSN:=hid (show M++((plP p).take (k+1)).map fNm=(M++((plP p).take k).map fNm)++[fNm (plP p)[k]] from (take_snoc fNm M (plP p) k hkl).symm)
            obtain ⟨T,hT⟩:∃ T,M++((plP p).take k).map fNm=T:=⟨_,rfl⟩
            obtain ⟨NT,hNT⟩:∃ n,T.length=n:=⟨_,rfl⟩
            rw [hT] at hga HSN
            have HTL:=hid (show T.length+1≤2000 from by
             have h1:=HML.out
             rw [← hT,List.length_append,List.length_map,List.length_take];omega)
            obtain ⟨pv,cv,rfl⟩:=hga.slc
            rw [hNT] at hga hsp ⊢
            have HGA:=hid hga
            have HSP:=hid hsp
            clear hga hT hNT hsp
            obtain ⟨hw1,hw2⟩:=HWK.out k hkl
            have hrg:=HRG.out (plP p)[k] (List.getElem_mem _)
            obtain ⟨⟨wd,z⟩,hz⟩:∃ x,(plP p)[k]=x:=⟨_,rfl⟩
            rw [hz] at hw1 hw2 hrg HSN
            simp only at hw1 hw2 hrg
            obtain ⟨r1,r2,r3⟩:=hrg
            obtain ⟨u,hu⟩:∃ a:Nat,z=(a:Int):=⟨z.toNat,by omega⟩
            subst hu
            clear hz
            obtain ⟨dg,hdg⟩:∃ d,Lib.decDigits u=d:=⟨_,rfl⟩
            have hdl:dg.length≤32:=by rw [← hdg,← itoa_natR u];exact Nat.le_trans (Lib.itoa_length_le _ (by omega) (by omega)) (by omega)
            have hcat:=c2_any wd dg
            obtain ⟨jy,hjy⟩:∃ j,jn [wd,dg]=j:=⟨_,rfl⟩
            have hq:fNm (wd,(u:Int))=jy:=by rw [← hjy,← hdg];show jn [wd,Lib.itoa (u:Int)]=_;rw [itoa_natR]
            rw [hq] at HSN
            rw [hjy] at hcat
            have HDG:=hid hdg
            have HUU:=hid (show u<18446744073709551616 from by omega)
            have hwu:IntKind.u64.wrap (u:Int)=(u:Int):=IntWalk.u64_in _ (by omega)
            clear hq hjy hdg
            have HSW:=hid (show ∀ W v,Sp q q2 ws zs v W→(fun W:World=>W.cell? ⟨q,k,none⟩=some (.string ⟨wd.toArray⟩)∧W.cell? ⟨q2,k,none⟩=some (.int .i64 (u:Int))) W from fun W v h=>⟨h.a.at k hw1,h.b.at k hw2⟩)
            clear hw1 hw2
            go_upto_region 30 with fail
            have hS:(fun W:World=>W.cell? ⟨q,k,none⟩=some (.string ⟨wd.toArray⟩)∧W.cell? ⟨q2,k,none⟩=some (.int .i64 (u:Int))) wr.drew:=HSW.out wr.drew _ (show Sp q q2 ws zs (.slice pv NT cv) wr.drew from ⟨HSP.out.a,HSP.out.b,HSP.out.ne⟩)
            have hFa:=fT
            refine rgN (fun W:World=>W.cell? ⟨q,k,none⟩=some (.string ⟨wd.toArray⟩)∧W.cell? ⟨q2,k,none⟩=some (.int .i64 (u:Int))) 15 (by kernel_rfl) ?_
            simp only [List.size_toArray,List.length_cons,List.length_nil,Nat.reduceAdd]
            iterate 11 (refine wpHJ_nx (v:=?_) 16 rfl rfl (by kernel_rfl) nE hS ?_ ?_;rotate_left;(focus refine Or.inl ⟨by rfl,?_⟩;rintro w' ⟨s0,s1⟩;(try go_simp);(try rw [if_neg (by omega)]);try rfl);simp only [Act.put,actP,actQ])
            refine wpHJ_only 11 (by kernel_rfl) rfl (fun K hK=>?_)
            go_simp
            (with_reducible refine (callsIn_wide.2 (rnum_any u HUU.out wr.drew)).mono ?_)
            rintro e w7 ⟨rfl,hb7⟩
            rw [HDG.out]
            have hbw:Below wr.heap.size wr w7:=(Below.refl wr.heap.size wr).drew.trans hb7
            have HB7:=hid (HBR.out.trans (hbw.mono HBR.out.size))
            have HG7:=hid (HGA.out.keep hbw)
            have HSP7:=hid (HSP.out.bel hbw)
            clear hb7 hbw
            have hS7:=HSW.out _ _ HSP7.out
            refine hK _ _ (.inr (.inr hS7)) ?_
            clear hK K
            (refine wpHJ_nx (v:=?_) 16 rfl rfl (by kernel_rfl) nE hS7 ?_ ?_;rotate_left;(focus refine Or.inl ⟨by rfl,?_⟩;rintro w' ⟨s0,s1⟩;(try go_simp);(try rw [if_neg (by omega)]);try rfl);simp only [Act.put,actP,actQ])
            refine wpHJ_only 13 (by kernel_rfl) rfl (fun K hK=>?_)
            go_simp
            obtain ⟨wb,hwb⟩:∃ W,w7.alloc (.cells #[.string (⟨jy.toArray⟩)] 9)=W:=⟨_,rfl⟩
            have hbb:Below w7.heap.size w7 wb:=by rw [← hwb];exact ((Below.refl _ _).alloc (Nat.le_refl _) _)
            have HBb:=hid (HB7.out.trans (hbb.mono HB7.out.size))
            have HGb:=hid (HG7.out.keep hbb)
            have HYb:=hid (show BxL 9 w7.heap.size [.string (⟨jy.toArray⟩)] wb from by rw [← hwb];exact BxL.new 9 w7 _)
            have HSPb:=hid (HSP7.out.bel hbb)
            rw [hwb]
            clear hwb hbb
            have hSb:=HSW.out _ _ HSPb.out
            refine hK _ _ (.inr (.inr hSb)) ?_
            clear hK K
            refine wpHJ_only 14 (by kernel_rfl) rfl (fun K hK=>?_)
            refine wpIn_pushB (R:=NoR) (B:=w1.heap.size) (K:=kStr) (v := .slice pv NT cv) (l:=T) (x:=jy) (cs:=[.string (⟨jy.toArray⟩)]) (te:=9) hFa (.tmp 148) (.tmp 161) 22 rfl Tryd.underlying22 _ 16 info_strI rfl HGb.out.gr (fun i hi=>hi.elim) (rfl) HYb.out (by rfl) (by rfl) (by have:=HTL.out;omega) (by have:=HTL.out;unfold maxLen;omega) HBb.out.size ?_
            intro v5 w5 hg5 hgr5 hm5
            have HG5:=hid hg5.ga5
            have HB5:=hid (below_grown HBb.out hgr5 (fun q hq=>(HGb.out.lt q hq).1) HBb.out.size)
            have HSP5:=hid (HSPb.out.next hgr5 hm5)
            clear hg5 hgr5 hm5
            have hS5:=HSW.out _ _ HSP5.out
            refine hK _ _ (.inr (.inr hS5)) ?_
            clear hK K
            refine wpHJ_only 15 (by kernel_rfl) rfl (fun K hK=>?_)
            go_simp
            refine hK _ _ (.inl rfl) ?_
            clear hK K
            refine wpHJ_done (by kernel_rfl) ?_ _
            simp only [onlyN,Exit.then]
            clear hFa
            clear hS
            go_wp2_with fail
            go_roundw
            case rel=>exact ⟨k+1,hlt,rfl,by rw [HSN.out];exact HG5.out,HB5.out,HSP5.out⟩
            case measure=>simp [intOf];omega
           ·have eqk:4=k:=by omega
            subst eqk
            have HGF:=hid (show GA kStr w1.heap.size 9 wr _ (M++(plP p).map fNm) from by rw [List.take_of_length_le (show (plP p).length≤4 from Nat.le_refl _)] at hga;exact hga)
            have HBF:=hid HBR.out
            clear hga hk hlt hsp
            generalize wr=wf at *
            obtain ⟨pf,cf,hsf⟩:=HGF.out.slc
            subst hsf
            have HSL:=hid (HGF.out.sl (by have:=HML.out;rw [List.length_append,List.length_map];show _+4≤_;omega))
            have HTX:=hid (show textP p=textT (M++(plP p).map fNm) from by unfold textP;rw [lines_Q,tl_pl,HMD.out];simp)
            have HAL:=hid (show (textT (M++(plP p).map fNm)).length≤1000000 from by rw [← HTX.out];unfold textP;rw [lines_Q];exact all_len p HOK.out)
            obtain ⟨A,hA⟩:∃ A,M++(plP p).map fNm=A:=⟨_,rfl⟩
            obtain ⟨na,hna⟩:∃ n,A.length=n:=⟨_,rfl⟩
            have HNA:=hid (show na≤2000 from by have:=HML.out;rw [← hna,← hA,List.length_append,List.length_map];show _+4≤_;omega)
            rw [hA] at HGF HSL HTX HAL ⊢
            rw [hna] at HGF HSL ⊢
            clear hA
            have HLA:=hid hna
            clear hna
            go_wp2_with fail
            go_loopw [14,15] (fun sv iv wr=>∃ k:Nat,k≤na∧iv = .int .i64 (k:Int)∧sv = .string ⟨(textT (A.take k)).toArray⟩∧wf=wr) (fun _ iv _=>na - (intOf iv).toNat)
            case atStart=>exact ⟨0,Nat.zero_le _,rfl,rfl,by trivial⟩
            case round =>
             obtain ⟨k,hk,rfl,hsv,hwr⟩:=hrel
             subst hwr
             have hna:=HNA.out
             by_cases hlt:k<na
             ·have tlt:decide ((k:Int)<(na:Int))=true:=decide_eq_true (by omega)
              have hkl:k<A.length:=by rw [HLA.out];exact hlt
              obtain ⟨b0,off,rfl,hR,hcells⟩:=str_at HSL.out (by omega:0<A.length)
              have c0:=hcells k hkl
              clear hcells hR
              have hnx:textT (A.take (k+1))=textT (A.take k)++A[k]++[10]:=by rw [show A.take (k+1)=A.take k++[A[k]] by simp,textT_app,textT_one,List.append_assoc]
              have hln:(textT (A.take (k+1))).length≤1000000:=Nat.le_trans (pre_text (List.take_prefix _ _)) HAL.out
              obtain ⟨S,hS⟩:∃ S,textT (A.take k)=S:=⟨_,rfl⟩
              obtain ⟨y,hy⟩:∃ y,A[k]=y:=⟨_,rfl⟩
              obtain ⟨N1,hN1⟩:∃ y,textT (A.take (k+1))=y:=⟨_,rfl⟩
              rw [hS,hy,hN1] at hnx
              rw [hN1] at hln
              rw [hS] at hsv
              rw [hy] at c0
              subst hsv
              have hcat:=nl_cat S y
              have hl3:S.length+y.length+1≤1000000:=by rw [hnx,List.length_append,List.length_append] at hln;simpa using hln
              rw [← hnx] at hcat
              have hl1:S.length≤1000000:=by omega
              have hl2:y.length≤1000000:=by omega
              have HN1:=hid hN1
              clear hS hy hN1 hnx hln
              go_wp2_with fail
              go_roundw
              case rel=>exact ⟨k+1,hlt,rfl,by rw [HN1.out],by trivial⟩
              case measure=>simp [intOf];omega
             ·have eqk:na=k:=by omega
              subst eqk
              have tlt:decide ((na:Int)<(na:Int))=false:=decide_eq_false (by omega)
              rw [List.take_of_length_le (by rw [HLA.out];exact Nat.le_refl _),← HTX.out] at hsv
              obtain ⟨N,hN⟩:∃ n,(textP p).length=n:=⟨_,rfl⟩
              have HM:=hid (show printP p=if 65536<N then ([],5) else (textP p,0) from by unfold printP;rw [if_neg (by rw [HCV.out];simp),hN])
              obtain ⟨X,hX⟩:∃ x,textP p=x:=⟨_,rfl⟩
              rw [hX] at hsv hN HM
              subst hsv
              have HNX:=hid hN
              clear hk hlt hX
              by_cases hbig:65536<N
              ·have hb1:(65536:Int)<(N:Int):=by omega
               have HBG:=hid hbig
               clear hbig
               go_wp2_with fail
               go_ret2
               exact ⟨by rw [HM.out,if_pos HBG.out];rfl,HB1.out.trans (HBF.out.mono HB1.out.size)⟩
              ·have HBG:=hid hbig
               have hb1:¬ (65536:Int)<(N:Int):=by omega
               clear hbig
               go_wp2_with fail
               go_ret2
               exact ⟨by rw [HM.out,if_neg HBG.out];rfl,HB1.out.trans (HBF.out.mono HB1.out.size)⟩
         ·have HSE:=hid hse
          have n4:wq.cell? ⟨w.heap.size,4,none⟩=some (.bool false):=by rw [(HX1.out.bel HBL4.out).at 4 rfl,hse]
          clear hse
          obtain ⟨pv,cv,hsl⟩:=HGL4.out.slc
          subst hsl
          have HQL:=hid (show (Q4 p).length≤1200 from by have:=HTOT.out;have:=HLEN0.out;have:=HLEN1.out;have:=HLEN2.out;have:=HLEN3.out;simp [Q4,Q3,Q2,Q1];omega)
          have HMD:=hid (show M0 p=Q4 p++[jn [kMode,if p.sens then kSens else kInsens]] from rfl)
          have HQM:=hid (show M0 p=Q4 p++[[109,111,100,101,32,105,110,115,101,110,115,105,116,105,118,101]] from by unfold M0;rw [HSE.out];rfl)
          have HML:=hid (show (M0 p).length≤1201 from by rw [HMD.out,List.length_append];have:=HQL.out;show _+1≤_;omega)
          obtain ⟨T,hT⟩:∃ T,Q4 p=T:=⟨_,rfl⟩
          obtain ⟨M,hM⟩:∃ T,M0 p=T:=⟨_,rfl⟩
          obtain ⟨NT,hNT⟩:∃ n,T.length=n:=⟨_,rfl⟩
          have HGA:=hid (show GA kStr w1.heap.size 9 wq (.slice pv NT cv) T from by have:=HGL4.out;rw [hT,hNT] at this;exact this)
          rw [hT,hM] at HQM
          rw [hM] at HMD HML
          have HTL:=hid (show T.length+1≤2000 from by rw [← hT];have:=HQL.out;omega)
          rw [hT,hNT]
          clear HGL4 hT hM hNT
          have HBR:=hid HBL4.out
          go_upto_region 25 with (at_builtin;refine wpList_push (K:=kStr) (x:=[109,111,100,101,32,105,110,115,101,110,115,105,116,105,118,101]) (cs:=[.string (⟨#[109,111,100,101,32,105,110,115,101,110,115,105,116,105,118,101]⟩)]) (te:=9) rfl _ _ 22 rfl Tryd.underlying22 _ 16 info_strI rfl HGA.out rfl (by rfl) (by rfl) (by have:=HTL.out;omega) (by have:=HTL.out;unfold maxLen;omega) HBR.out.size ?_;intro v5 w5 hg5 hgr5 hm5;have HG5:=hid hg5;have HB5:=hid (below_push HGA.out HBR.out hgr5 HBR.out.size);clear hg5 hgr5 hm5)
          clear n4
          go_upto_region 26 with fail
          obtain ⟨ws,hws⟩:∃ l:List Value,[.string ⟨#[115,116,101,112,115]⟩,.string ⟨#[112,97,116,104,115]⟩,.string ⟨#[110,111,100,101,115]⟩,.string ⟨#[99,111,110,102,108,105,99,116,115]⟩]=l:=⟨_,rfl⟩
          obtain ⟨zs,hzs⟩:∃ l:List Value,[.int .i64 p.steps,.int .i64 p.paths,.int .i64 p.nodes,.int .i64 p.conf]=l:=⟨_,rfl⟩
          have HWK:=hid (show ∀ k (h:k<(plP p).length),ws[k]?=some (.string ⟨(plP p)[k].1.toArray⟩)∧zs[k]?=some (.int .i64 (plP p)[k].2) from by
           intro k h
           rw [← hws,← hzs]
           have h':k<4:=h
           have:k=0∨k=1∨k=2∨k=3:=by omega
           rcases this with rfl | rfl | rfl | rfl <;> exact ⟨rfl,rfl⟩)
          have HRG:=hid (show ∀ x ∈ plP p,0≤x.2∧x.2≤1099511627776∧x.1.length≤32 from by
           have hr:=HOK.out.rg
           unfold rangeB at hr
           simp only [Bool.and_eq_true,decide_eq_true_eq] at hr
           intro x hx
           have hl:kSteps.length≤32∧kPaths.length≤32∧kNodes.length≤32∧kConf.length≤32:=by decide
           simp only [plP,List.mem_cons,List.not_mem_nil,or_false] at hx
           rcases hx with rfl | rfl | rfl | rfl <;> (simp only;omega))
          have HQW:=hid (show BxL 9 w5.heap.size ws (w5.alloc (.cells #[.string ⟨#[115,116,101,112,115]⟩,.string ⟨#[112,97,116,104,115]⟩,.string ⟨#[110,111,100,101,115]⟩,.string ⟨#[99,111,110,102,108,105,99,116,115]⟩] 9)) from by rw [← hws];exact BxL.new _ _ _)
          have hbo:Below w5.heap.size w5 (w5.alloc (.cells #[.string ⟨#[115,116,101,112,115]⟩,.string ⟨#[112,97,116,104,115]⟩,.string ⟨#[110,111,100,101,115]⟩,.string ⟨#[99,111,110,102,108,105,99,116,115]⟩] 9)):=(Below.refl _ _).alloc (Nat.le_refl _) _
          have HBo:=hid (HB5.out.trans (hbo.mono HB5.out.size))
          have HGo:=hid (HG5.out.keep hbo)
          obtain ⟨q,hq⟩:∃ n,w5.heap.size=n:=⟨_,rfl⟩
          obtain ⟨wo,hwo⟩:∃ W,w5.alloc (.cells #[.string ⟨#[115,116,101,112,115]⟩,.string ⟨#[112,97,116,104,115]⟩,.string ⟨#[110,111,100,101,115]⟩,.string ⟨#[99,111,110,102,108,105,99,116,115]⟩] 9)=W:=⟨_,rfl⟩
          have HOW:=hid (show ∀ k,v5.ownBlock=some k→k<q from fun k hk=>by rw [← hq];exact (HG5.out.lt k hk).2)
          rw [hwo] at HBo HGo HQW ⊢
          rw [hq] at HQW ⊢
          clear hwo hq hbo HG5 HB5 hws
          generalize v5=vm at *
          have hxo:=hid (HX1.out.bel HBo.out)
          have n5:wo.cell? ⟨w.heap.size,5,none⟩=some (.int .i64 p.steps):=hxo.out.at 5 rfl
          have n6:wo.cell? ⟨w.heap.size,6,none⟩=some (.int .i64 p.paths):=hxo.out.at 6 rfl
          have n7:wo.cell? ⟨w.heap.size,7,none⟩=some (.int .i64 p.nodes):=hxo.out.at 7 rfl
          have n8:wo.cell? ⟨w.heap.size,8,none⟩=some (.int .i64 p.conf):=hxo.out.at 8 rfl
          go_upto_region 27 with fail
          clear n5 n6 n7 n8 hxo
          have hbo:Below wo.heap.size wo (wo.alloc (.cells zs.toArray 3)):=(Below.refl _ _).alloc (Nat.le_refl _) _
          have HSP6:=hid (show Sp q wo.heap.size ws zs vm (wo.alloc (.cells zs.toArray 3)) from ⟨HQW.out.bel hbo,BxL.new _ _ _,fun k hk=>by have h1:=HOW.out k hk;have h2:=HQW.out.lt;exact ⟨by omega,by omega⟩⟩)
          have HB6:=hid (HBo.out.trans (hbo.mono HBo.out.size))
          have HG6:=hid (show GA kStr w1.heap.size 9 (wo.alloc (.cells zs.toArray 3)) vm M from by rw [HQM.out];exact HGo.out.keep hbo)
          obtain ⟨q2,hq2⟩:∃ n,wo.heap.size=n:=⟨_,rfl⟩
          obtain ⟨wp,hwp⟩:∃ W,wo.alloc (.cells zs.toArray 3)=W:=⟨_,rfl⟩
          rw [hwp] at HSP6 HB6 HG6 ⊢
          rw [hq2] at HSP6 ⊢
          clear hwp hq2 hbo HGo HBo HQW hzs
          go_wp2_with fail
          go_loopw [5,13] (fun lv iv wr=>∃ k:Nat,k≤4∧iv = .int .i64 (k:Int)∧GA kStr w1.heap.size 9 wr lv (M++((plP p).take k).map fNm)∧Below w1.heap.size w1 wr∧Sp q q2 ws zs lv wr) (fun _ iv _=>4 - (intOf iv).toNat)
          case atStart=>exact ⟨0,Nat.zero_le _,rfl,by rw [List.take_zero,List.map_nil,List.append_nil];exact HG6.out,HB6.out,HSP6.out⟩
          case round =>
           obtain ⟨k,hk,rfl,hga,hbr,hsp⟩:=hrel
           have HBR:=hid hbr
           clear hbr
           by_cases hlt:k<4
           ·have tlt:decide ((k:Int)<4)=true:=decide_eq_true (by omega)
            have hkl:k<(plP p).length:=hlt
            have hk4:(k:Int)<4:=by omega
            have HSN:=hid (show M++((plP p).take (k+1)).map fNm=(M++((plP p).take k).map fNm)++[fNm (plP p)[k]] from (take_snoc fNm M (plP p) k hkl).symm)
            obtain ⟨T,hT⟩:∃ T,M++((plP p).take k).map fNm=T:=⟨_,rfl⟩
            obtain ⟨NT,hNT⟩:∃ n,T.length=n:=⟨_,rfl⟩
            rw [hT] at hga HSN
            have HTL:=hid (show T.length+1≤2000 from by
             have h1:=HML.out
             rw [← hT,List.length_append,List.length_map,List.length_take];omega)
            obtain ⟨pv,cv,rfl⟩:=hga.slc
            rw [hNT] at hga hsp ⊢
            have HGA:=hid hga
            have HSP:=hid hsp
            clear hga hT hNT hsp
            obtain ⟨hw1,hw2⟩:=HWK.out k hkl
            have hrg:=HRG.out (plP p)[k] (List.getElem_mem _)
            obtain ⟨⟨wd,z⟩,hz⟩:∃ x,(plP p)[k]=x:=⟨_,rfl⟩
            rw [hz] at hw1 hw2 hrg HSN
            simp only at hw1 hw2 hrg
            obtain ⟨r1,r2,r3⟩:=hrg
            obtain ⟨u,hu⟩:∃ a:Nat,z=(a:Int):=⟨z.toNat,by omega⟩
            subst hu
            clear hz
            obtain ⟨dg,hdg⟩:∃ d,Lib.decDigits u=d:=⟨_,rfl⟩
            have hdl:dg.length≤32:=by rw [← hdg,← itoa_natR u];exact Nat.le_trans (Lib.itoa_length_le _ (by omega) (by omega)) (by omega)
            have hcat:=c2_any wd dg
            obtain ⟨jy,hjy⟩:∃ j,jn [wd,dg]=j:=⟨_,rfl⟩
            have hq:fNm (wd,(u:Int))=jy:=by rw [← hjy,← hdg];show jn [wd,Lib.itoa (u:Int)]=_;rw [itoa_natR]
            rw [hq] at HSN
            rw [hjy] at hcat
            have HDG:=hid hdg
            have HUU:=hid (show u<18446744073709551616 from by omega)
            have hwu:IntKind.u64.wrap (u:Int)=(u:Int):=IntWalk.u64_in _ (by omega)
            clear hq hjy hdg
            have HSW:=hid (show ∀ W v,Sp q q2 ws zs v W→(fun W:World=>W.cell? ⟨q,k,none⟩=some (.string ⟨wd.toArray⟩)∧W.cell? ⟨q2,k,none⟩=some (.int .i64 (u:Int))) W from fun W v h=>⟨h.a.at k hw1,h.b.at k hw2⟩)
            clear hw1 hw2
            go_upto_region 30 with fail
            have hS:(fun W:World=>W.cell? ⟨q,k,none⟩=some (.string ⟨wd.toArray⟩)∧W.cell? ⟨q2,k,none⟩=some (.int .i64 (u:Int))) wr.drew:=HSW.out wr.drew _ (show Sp q q2 ws zs (.slice pv NT cv) wr.drew from ⟨HSP.out.a,HSP.out.b,HSP.out.ne⟩)
            have hFa:=fT
            refine rgN (fun W:World=>W.cell? ⟨q,k,none⟩=some (.string ⟨wd.toArray⟩)∧W.cell? ⟨q2,k,none⟩=some (.int .i64 (u:Int))) 15 (by kernel_rfl) ?_
            simp only [List.size_toArray,List.length_cons,List.length_nil,Nat.reduceAdd]
            iterate 11 (refine wpHJ_nx (v:=?_) 16 rfl rfl (by kernel_rfl) nE hS ?_ ?_;rotate_left;(focus refine Or.inl ⟨by rfl,?_⟩;rintro w' ⟨s0,s1⟩;(try go_simp);(try rw [if_neg (by omega)]);try rfl);simp only [Act.put,actP,actQ])
            refine wpHJ_only 11 (by kernel_rfl) rfl (fun K hK=>?_)
            go_simp
            (with_reducible refine (callsIn_wide.2 (rnum_any u HUU.out wr.drew)).mono ?_)
            rintro e w7 ⟨rfl,hb7⟩
            rw [HDG.out]
            have hbw:Below wr.heap.size wr w7:=(Below.refl wr.heap.size wr).drew.trans hb7
            have HB7:=hid (HBR.out.trans (hbw.mono HBR.out.size))
            have HG7:=hid (HGA.out.keep hbw)
            have HSP7:=hid (HSP.out.bel hbw)
            clear hb7 hbw
            have hS7:=HSW.out _ _ HSP7.out
            refine hK _ _ (.inr (.inr hS7)) ?_
            clear hK K
            (refine wpHJ_nx (v:=?_) 16 rfl rfl (by kernel_rfl) nE hS7 ?_ ?_;rotate_left;(focus refine Or.inl ⟨by rfl,?_⟩;rintro w' ⟨s0,s1⟩;(try go_simp);(try rw [if_neg (by omega)]);try rfl);simp only [Act.put,actP,actQ])
            refine wpHJ_only 13 (by kernel_rfl) rfl (fun K hK=>?_)
            go_simp
            obtain ⟨wb,hwb⟩:∃ W,w7.alloc (.cells #[.string (⟨jy.toArray⟩)] 9)=W:=⟨_,rfl⟩
            have hbb:Below w7.heap.size w7 wb:=by rw [← hwb];exact ((Below.refl _ _).alloc (Nat.le_refl _) _)
            have HBb:=hid (HB7.out.trans (hbb.mono HB7.out.size))
            have HGb:=hid (HG7.out.keep hbb)
            have HYb:=hid (show BxL 9 w7.heap.size [.string (⟨jy.toArray⟩)] wb from by rw [← hwb];exact BxL.new 9 w7 _)
            have HSPb:=hid (HSP7.out.bel hbb)
            rw [hwb]
            clear hwb hbb
            have hSb:=HSW.out _ _ HSPb.out
            refine hK _ _ (.inr (.inr hSb)) ?_
            clear hK K
            refine wpHJ_only 14 (by kernel_rfl) rfl (fun K hK=>?_)
            refine wpIn_pushB (R:=NoR) (B:=w1.heap.size) (K:=kStr) (v := .slice pv NT cv) (l:=T) (x:=jy) (cs:=[.string (⟨jy.toArray⟩)]) (te:=9) hFa (.tmp 148) (.tmp 161) 22 rfl Tryd.underlying22 _ 16 info_strI rfl HGb.out.gr (fun i hi=>hi.elim) (rfl) HYb.out (by rfl) (by rfl) (by have:=HTL.out;omega) (by have:=HTL.out;unfold maxLen;omega) HBb.out.size ?_
            intro v5 w5 hg5 hgr5 hm5
            have HG5:=hid hg5.ga5
            have HB5:=hid (below_grown HBb.out hgr5 (fun q hq=>(HGb.out.lt q hq).1) HBb.out.size)
            have HSP5:=hid (HSPb.out.next hgr5 hm5)
            clear hg5 hgr5 hm5
            have hS5:=HSW.out _ _ HSP5.out
            refine hK _ _ (.inr (.inr hS5)) ?_
            clear hK K
            refine wpHJ_only 15 (by kernel_rfl) rfl (fun K hK=>?_)
            go_simp
            refine hK _ _ (.inl rfl) ?_
            clear hK K
            refine wpHJ_done (by kernel_rfl) ?_ _
            simp only [onlyN,Exit.then]
            clear hFa
            clear hS
            go_wp2_with fail
            go_roundw
            case rel=>exact ⟨k+1,hlt,rfl,by rw [HSN.out];exact HG5.out,HB5.out,HSP5.out⟩
            case measure=>simp [intOf];omega
           ·have eqk:4=k:=by omega
            subst eqk
            have HGF:=hid (show GA kStr w1.heap.size 9 wr _ (M++(plP p).map fNm) from by rw [List.take_of_length_le (show (plP p).length≤4 from Nat.le_refl _)] at hga;exact hga)
            have HBF:=hid HBR.out
            clear hga hk hlt hsp
            generalize wr=wf at *
            obtain ⟨pf,cf,hsf⟩:=HGF.out.slc
            subst hsf
            have HSL:=hid (HGF.out.sl (by have:=HML.out;rw [List.length_append,List.length_map];show _+4≤_;omega))
            have HTX:=hid (show textP p=textT (M++(plP p).map fNm) from by unfold textP;rw [lines_Q,tl_pl,HMD.out];simp)
            have HAL:=hid (show (textT (M++(plP p).map fNm)).length≤1000000 from by rw [← HTX.out];unfold textP;rw [lines_Q];exact all_len p HOK.out)
            obtain ⟨A,hA⟩:∃ A,M++(plP p).map fNm=A:=⟨_,rfl⟩
            obtain ⟨na,hna⟩:∃ n,A.length=n:=⟨_,rfl⟩
            have HNA:=hid (show na≤2000 from by have:=HML.out;rw [← hna,← hA,List.length_append,List.length_map];show _+4≤_;omega)
            rw [hA] at HGF HSL HTX HAL ⊢
            rw [hna] at HGF HSL ⊢
            clear hA
            have HLA:=hid hna
            clear hna
            go_wp2_with fail
            go_loopw [14,15] (fun sv iv wr=>∃ k:Nat,k≤na∧iv = .int .i64 (k:Int)∧sv = .string ⟨(textT (A.take k)).toArray⟩∧wf=wr) (fun _ iv _=>na - (intOf iv).toNat)
            case atStart=>exact ⟨0,Nat.zero_le _,rfl,rfl,by trivial⟩
            case round =>
             obtain ⟨k,hk,rfl,hsv,hwr⟩:=hrel
             subst hwr
             have hna:=HNA.out
             by_cases hlt:k<na
             ·have tlt:decide ((k:Int)<(na:Int))=true:=decide_eq_true (by omega)
              have hkl:k<A.length:=by rw [HLA.out];exact hlt
              obtain ⟨b0,off,rfl,hR,hcells⟩:=str_at HSL.out (by omega:0<A.length)
              have c0:=hcells k hkl
              clear hcells hR
              have hnx:textT (A.take (k+1))=textT (A.take k)++A[k]++[10]:=by rw [show A.take (k+1)=A.take k++[A[k]] by simp,textT_app,textT_one,List.append_assoc]
              have hln:(textT (A.take (k+1))).length≤1000000:=Nat.le_trans (pre_text (List.take_prefix _ _)) HAL.out
              obtain ⟨S,hS⟩:∃ S,textT (A.take k)=S:=⟨_,rfl⟩
              obtain ⟨y,hy⟩:∃ y,A[k]=y:=⟨_,rfl⟩
              obtain ⟨N1,hN1⟩:∃ y,textT (A.take (k+1))=y:=⟨_,rfl⟩
              rw [hS,hy,hN1] at hnx
              rw [hN1] at hln
              rw [hS] at hsv
              rw [hy] at c0
              subst hsv
              have hcat:=nl_cat S y
              have hl3:S.length+y.length+1≤1000000:=by rw [hnx,List.length_append,List.length_append] at hln;simpa using hln
              rw [← hnx] at hcat
              have hl1:S.length≤1000000:=by omega
              have hl2:y.length≤1000000:=by omega
              have HN1:=hid hN1
              clear hS hy hN1 hnx hln
              go_wp2_with fail
              go_roundw
              case rel=>exact ⟨k+1,hlt,rfl,by rw [HN1.out],by trivial⟩
              case measure=>simp [intOf];omega
             ·have eqk:na=k:=by omega
              subst eqk
              have tlt:decide ((na:Int)<(na:Int))=false:=decide_eq_false (by omega)
              rw [List.take_of_length_le (by rw [HLA.out];exact Nat.le_refl _),← HTX.out] at hsv
              obtain ⟨N,hN⟩:∃ n,(textP p).length=n:=⟨_,rfl⟩
              have HM:=hid (show printP p=if 65536<N then ([],5) else (textP p,0) from by unfold printP;rw [if_neg (by rw [HCV.out];simp),hN])
              obtain ⟨X,hX⟩:∃ x,textP p=x:=⟨_,rfl⟩
              rw [hX] at hsv hN HM
              subst hsv
              have HNX:=hid hN
              clear hk hlt hX
              by_cases hbig:65536<N
              ·have hb1:(65536:Int)<(N:Int):=by omega
               have HBG:=hid hbig
               clear hbig
               go_wp2_with fail
               go_ret2
               exact ⟨by rw [HM.out,if_pos HBG.out];rfl,HB1.out.trans (HBF.out.mono HB1.out.size)⟩
              ·have HBG:=hid hbig
               have hb1:¬ (65536:Int)<(N:Int):=by omega
               clear hbig
               go_wp2_with fail
               go_ret2
               exact ⟨by rw [HM.out,if_neg HBG.out];rfl,HB1.out.trans (HBF.out.mono HB1.out.size)⟩
end Go.Proofs.YtbijamcoibonkaaDoor
