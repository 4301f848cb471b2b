/-
 A part.
-/
import Derived.Test.YtoofbgoeipijcaaGreatDoorVB46
namespace Go.Proofs.YtoofbgoeipijcaaGreatDoor
set_option maxRecDepth 100000
set_option maxHeartbeats 4000000
set_option linter.all false
open Go.RowKit Go.Shelf
attribute [local go_sem] Oper.semAt_some
theorem tk_ok (s:Bs) (hs:s.length<=65536) (m:Int) (w:World) (hm:w.cell? ⟨0,0,none⟩=some (.int .i64 m)):Calls Tryz.prog 35 #[.string ⟨s.toArray⟩] w fun e w'=>(∃ v x y c,e=.returned (.tuple #[v,.agg #[.int .i64 x,.int .i64 y],.int .i64 c])/\(c=0->∃ o,tok s=.ok o))/\Below w.heap.size w w':=by
 refine (lines_any s m w hm).mono ?_
 rintro e w' ⟨hb,h⟩
 refine ⟨?_,hb⟩
 unfold linesR at h
 rw [if_neg (by omega)] at h
 cases ht:tok s with
 | error q =>
  rw [ht] at h
  exact ⟨_,_,_,_,h,fun e=>absurd e (by decide)⟩
 | ok o =>
  rw [ht] at h
  obtain ⟨v,he,_⟩:=h
  exact ⟨_,_,_,_,he,fun _=>⟨o,rfl⟩⟩
theorem parse_tri (l:Bs) (m:Int) (w:World) (hE:PrE0 w) (hm:w.cell? ⟨0,0,none⟩=some (.int .i64 m)) {X Y er:Int} (h:(parseM l).2=((X,Y),er)):Calls Tryz.prog 28 #[.string ⟨l.toArray⟩] w fun e w'=>(∃ wd pa na ca pb nb cb pc nc cc pd nd cd,e=.returned (.tuple #[.agg #[.int .i64 wd,.slice pa na ca,.slice pb nb cb,.slice pc nc cc,.slice pd nd cd],.agg #[.int .i64 X,.int .i64 Y],.int .i64 er]))/\Below w.heap.size w w':=by
 refine (parse_any l m w hE hm).mono ?_
 rintro e w' ⟨hb,a,b,c,d,he,hq⟩
 rw [h] at he
 obtain ⟨p1,c1,h1⟩:=hq.1.slc
 obtain ⟨p2,c2,h2⟩:=hq.2.1.slc
 obtain ⟨p3,c3,h3⟩:=hq.2.2.1.slc
 obtain ⟨p4,c4,h4⟩:=hq.2.2.2.slc
 subst h1 h2 h3 h4
 exact ⟨⟨_,_,_,_,_,_,_,_,_,_,_,_,_,he⟩,hb⟩
theorem join_any (R:List Bs) (b c:Nat) (w:World) (hz:∀ j (h:j<R.length),w.cell? ⟨b,j,none⟩=some (.string ⟨R[j].toArray⟩)) (hb:b<w.heap.size) (hc:R.length<=c) (h1:R.length<=70000) (h2:(nlJ R).length<=70000):Calls Tryz.prog 36 #[.slice (some ⟨b,0,none⟩) R.length c,.string ⟨#[10]⟩] w fun e w'=>e=.returned (.string ⟨(nlJ R).toArray⟩)/\Below w.heap.size w w':=by
 have hR:(R.map fun s=>(⟨s.toArray⟩:ByteArray)).map (·.data.toList)=R:=by
  rw [List.map_map]
  exact (List.map_congr_left fun x _=>by simp).trans (List.map_id _)
 have:=Tryz.strings_Join b 0 c (R.map fun s=>⟨s.toArray⟩) ⟨#[10]⟩ w (fun j y hj=>by
  rw [List.getElem?_map] at hj
  cases hx:R[j]? with
  | none=>rw [hx] at hj;cases hj
  | some x =>
   rw [hx] at hj
   obtain ⟨hl,e⟩:=List.getElem?_eq_some_iff.1 hx
   have:=hz j hl
   rw [e] at this
   rw [Nat.zero_add,this]
   injection hj with hj
   exact congrArg (fun z=>some (Value.string z)) hj) hb (by rw [List.length_map];omega) (by rw [List.length_map];exact hc) (by rw [hR];show (nlJ R).length<=_;omega)
 rw [List.length_map,hR] at this
 exact this
theorem ended_any (s:Bs) (m:Int) (w:World) (hs:s.length<=65536) (hm:w.cell? ⟨0,0,none⟩=some (.int .i64 m)):Calls Tryz.prog 37 #[.string ⟨s.toArray⟩] w fun e w'=>e=.returned (.agg #[.int .i64 (endOf s).1,.int .i64 (endOf s).2])/\Below w.heap.size w w':=by
 obtain ⟨n,hn,h1,h2,h3⟩:∃ n,s.count 10=n/\(rowsNL s).length=1+n/\∃ h:n<(rowsNL s).length,(rowsNL s)[n].length=(s.reverse.takeWhile fun c=>decide (c ≠ 10)).length:=⟨_,rfl,rows_end s.length s lrf⟩
 have hno:=List.count_le_length (a:=(10:UInt8)) (l:=s)
 rw [hn] at hno
 obtain ⟨X,Y,hE⟩:∃ X Y:Int,endOf s=(X,Y):=⟨_,_,rfl⟩
 obtain ⟨r,hr⟩:∃ r,(rowsNL s)[n]'h2=r:=⟨_,rfl⟩
 have hrl:=rows_le s.length s lrf r (by rw [<- hr];exact List.getElem_mem _)
 rw [hr] at h3
 have hX:X=((n+1:Nat):Int):=by
  have:(endOf s).1=X:=by rw [hE]
  rw [<- this];unfold endOf;dsimp only;rw [hn];omega
 have hY:Y=1+(r.length:Int):=by
  have:(endOf s).2=Y:=by rw [hE]
  rw [<- this,h3];rfl
 rw [hE]
 subst hX hY
 have HM:=hid hm;have HS:=hid hs
 have HMB:=hid (show ∀ W,Below w.heap.size w W->W.cell? ⟨0,0,none⟩=some (.int .i64 m) from fun W hb=>cB hb HM.out)
 have HSP:=hid (show ∀ W,Below w.heap.size w W->Calls Tryz.prog 33 #[.string ⟨s.toArray⟩,.string ⟨#[10]⟩] W (fun e w'=>e=.returned (.slice (some ⟨W.heap.size,0,none⟩) (n+1:Nat) (n+1:Nat))/\BxL 9 W.heap.size ((rowsNL s).map fun r=>Value.string ⟨r.toArray⟩) w'/\Below W.heap.size W w') from fun W hW=>by have h:=split_any s m W hs (HMB.out W hW);rwa [show (rowsNL s).length=n+1 by omega] at h)
 have HRJ:=hid (show ((rowsNL s).map fun r=>Value.string ⟨r.toArray⟩)[n]?=some (.string ⟨r.toArray⟩) from by rw [List.getElem?_map,List.getElem?_eq_getElem h2,hr];rfl)
 have hzr:(⟨r.toArray⟩:ByteArray).size=r.length:=rfl
 obtain ⟨N1,hN1⟩:∃ k,n+1=k:=⟨_,rfl⟩
 rw [hN1] at HSP ⊢
 have e1:IntKind.i64.wrap ((N1:Int) - 1)=(n:Int):=by rw [show (N1:Int) - 1=(n:Int) by omega];exact IntWalk.i64_in _ (by omega)
 have e2:IntKind.i64.wrap (1+(r.length:Int))=1+(r.length:Int):=IntWalk.i64_in _ (by omega)
 have hnz:(0:Int)<=(n:Int):=Int.natCast_nonneg n
 have hlt:n<N1:=by omega
 clear h1 h2 h3 hr hn hno hE hm hs
 go_enter Tryz.func37,Tryz.ntmps37
 go_upto_region 1 with fail
 obtain ⟨w1,hw1⟩:∃ W,w.alloc (.cells #[.int .i64 0,.int .i64 0] 39)=W:=⟨_,rfl⟩
 have HB1:=hid (show Below w.heap.size w w1 from by rw [<- hw1];exact bA)
 have HX1:=hid (show BxL 39 w.heap.size [.int .i64 0,.int .i64 0] w1 from by rw [<- hw1];exact BxL.new _ _ _)
 rw [hw1]
 clear hw1
 go_upto_region 2 with (go_at_call 33;(with_reducible refine (HSP.out _ HB1.out).mono ?_);rintro e w2 ⟨rfl,hz,hb⟩;have HB2:=hid (HB1.out.trans (hb.mono HB1.out.size));have HX2:=hid (HX1.out.bel hb);have hxn:=hz.at n HRJ.out;clear hb hz)
 have n0:=HX2.at 0 rfl;have n1:=HX2.at 1 rfl;have nf:=HX2.fr 0;have nf1:=HX2.fr 1
 go_wp2_with fail
 obtain ⟨w4,hw4⟩:∃ W,(w2.setCell ⟨w.heap.size,0,none⟩ (.int .i64 (N1:Int))).setCell ⟨w.heap.size,1,none⟩ (.int .i64 (1+(r.length:Int)))=W:=⟨_,rfl⟩
 have hX4:BxL 39 w.heap.size [.int .i64 (N1:Int),.int .i64 (1+(r.length:Int))] w4:=by rw [<- hw4];exact (HX2.set 0 _).set 1 _
 have HB4:=hid (show Below w.heap.size w w4 from by rw [<- hw4];exact (HB2.setCell lrf _).setCell lrf _)
 rw [hw4]
 have q0:=hX4.at 0 rfl;have q1:=hX4.at 1 rfl
 clear hw4 hX4 n0 n1 nf nf1 hxn
 exact bodyPost_ret (v := .agg #[.int .i64 (N1:Int),.int .i64 (1+(r.length:Int))]) (by simp [results,Tryz.results37,go_sem,q0,q1]) rfl ⟨rfl,HB4.out⟩
theorem parse_err (l:Bs) {p:Pg} {X Y er:Int} (h:parseM l=(p,(X,Y),er)) (he:er ≠ 0):parseE l=.error ((X,Y),er):=by
 unfold parseM at h
 cases h1:parseE l with
 | ok q=>rw [h1] at h;injection h with _ h;injection h with _ h;exact absurd h.symm he
 | error f=>rw [h1] at h;injection h with _ h;injection h with h2 h3;rw [<- h2,<- h3]
theorem err_parse {l:Bs} {f:Flt} (h:parseE l=.error f):(parseM l).2=f:=by unfold parseM;rw [h]
theorem parse_three (sh a:Bs) (m:Int) (w:World) (hE:PrE0 w) (hm:w.cell? ⟨0,0,none⟩=some (.int .i64 m)) {X Y er:Int} (h:parseE (sh++10 :: a)=.error ((X,Y),er)):Calls Tryz.prog 28 #[.string (⟨sh.toArray⟩++⟨#[10]⟩++⟨a.toArray⟩)] w fun e w'=>(∃ wd pa na ca pb nb cb pc nc cc pd nd cd,e=.returned (.tuple #[.agg #[.int .i64 wd,.slice pa na ca,.slice pb nb cb,.slice pc nc cc,.slice pd nd cd],.agg #[.int .i64 X,.int .i64 Y],.int .i64 er]))/\Below w.heap.size w w':=by
 rw [show (⟨sh.toArray⟩:ByteArray)++⟨#[10]⟩++⟨a.toArray⟩=⟨(sh++10 :: a).toArray⟩ from by simp only [ByteArray.mk_append_mk];simp]
 exact parse_tri _ m w hE hm (err_parse h)
theorem err_eq {sh:Bs} {p2:Pg} {L X1 Y0 Y1 er fr ev:Int} (h:parseE sh=.error ((L,X1),er)) (h2:parseM sh=(p2,(Y0,Y1),fr)) (h3:ev=er):fr=ev/\Y0=L/\Y1=X1:=by
 have h4:=err_parse h
 rw [h2] at h4
 injection h4 with h4 h5
 injection h4 with h6 h7
 exact ⟨h5.trans h3.symm,h6,h7⟩
theorem prefix_any (l a:Bs) (sb sa:ByteArray) (m:Int) (w:World) (hE:PrE0 w) (hm:w.cell? ⟨0,0,none⟩=some (.int .i64 m)) (hsb:sb.extract 0 (min (↑sb.size) 1500:Int).toNat=⟨l.toArray⟩) (hsa:sa.extract 0 (min (↑sa.size) 300:Int).toNat=⟨a.toArray⟩) (hl:l.length<=1500) (hla:a.length<=300) :
    Calls Tryz.prog 9 #[.string sb,.string sa] w fun e w'=>e=.returned (.bool true)/\Below w.heap.size w w':=by
  have HE:=hid hE;have HM:=hid hm
  have HMB:=hid (show ∀ W,Below w.heap.size w W->W.cell? ⟨0,0,none⟩=some (.int .i64 m) from fun W hb=>cB hb HM.out)
  obtain ⟨⟨p,⟨X0,X1⟩,er⟩,hp⟩:∃ x,parseM l=x:=⟨_,rfl⟩
  have HPA:=hid (show ∀ W,Below w.heap.size w W->Calls Tryz.prog 28 #[.string ⟨l.toArray⟩] W (fun e w'=>(∃ wd pa na ca pb nb cb pc nc cc pd nd cd,e=.returned (.tuple #[.agg #[.int .i64 wd,.slice pa na ca,.slice pb nb cb,.slice pc nc cc,.slice pd nd cd],.agg #[.int .i64 X0,.int .i64 X1],.int .i64 er]))/\Below W.heap.size W w') from fun W hW=>parse_tri l m W (HE.below hW) (HMB.out W hW) (show (parseM l).2=((X0,X1),er) from by rw [hp]))
  have HLA:=hid (show ∀ W,Below w.heap.size w W->Calls Tryz.prog 35 #[.string ⟨l.toArray⟩] W (fun e w'=>(∃ v x y c,e=.returned (.tuple #[v,.agg #[.int .i64 x,.int .i64 y],.int .i64 c])/\(c=0->∃ o,tok l=.ok o))/\Below W.heap.size W w') from fun W hW=>tk_ok l (by omega) m W (HMB.out W hW))
  have HLB:=hid (show ∀ W,Below w.heap.size w W->Calls Tryz.prog 35 #[.string ⟨a.toArray⟩] W (fun e w'=>(∃ v x y c,e=.returned (.tuple #[v,.agg #[.int .i64 x,.int .i64 y],.int .i64 c])/\(c=0->∃ o,tok a=.ok o))/\Below W.heap.size W w') from fun W hW=>tk_ok a (by omega) m W (HMB.out W hW))
  have HSB:=hid hsb;have HSA:=hid hsa;have HP:=hid hp;have HL:=hid (And.intro hl hla)
  clear hE hm hsb hsa hl hla hp
  go_enter Tryz.func9,Tryz.ntmps9
  go_upto_region 1 with fail
  have m1:(0:Int)<=min (↑sb.size) 1500:=by omega
  have m2:min (↑sb.size) 1500<=(↑sb.size:Int):=by omega
  have m3:(0:Int)<=min (↑sa.size) 300:=by omega
  have m4:min (↑sa.size) 300<=(↑sa.size:Int):=by omega
  have hFa:=fT
  refine rgN (fun _:World=>True) 12 (by kernel_rfl) ?_
  simp only [zP,Nat.reduceAdd]
  iterate 12 (refine nxW (v:=?_) 12 trivial ?_ ?_;rotate_left;(focus rintro w' _;(try go_simp);try rfl);simp only [aP])
  refine wpHJ_done (by kernel_rfl) ?_ _
  simp only [onlyN,Exit.then]
  clear hFa
  clear m1 m2 m3 m4
  go_upto_region 2 with fail
  rw [HSB.out,HSA.out]
  have HB0:=hid (show Below w.heap.size w w.drew from (Below.refl _ _).drew)
  generalize w.drew=w0 at *
  go_upto_region 3 with (go_at_call 28;(with_reducible refine (HPA.out _ HB0.out).mono ?_);rintro e w1 ⟨⟨wd,pa,na,ca,pb,nb,cb,pc,nc,cc,pd,nd,cd,rfl⟩,hb⟩;have HB1:=hid (HB0.out.trans (hb.mono HB0.out.size));clear hb)
  obtain ⟨w2,hw2⟩:∃ W,(w1.alloc (.cells #[.int .i64 wd,.slice pa na ca,.slice pb nb cb,.slice pc nc cc,.slice pd nd cd] 27)).alloc (.cells #[.int .i64 X0,.int .i64 X1] 39)=W:=⟨_,rfl⟩
  have hb2:Below w1.heap.size w1 w2:=by rw [<- hw2];exact (bA).alloc (by rw [sA];omega) _
  have HX2:=hid (show BxL 39 (w1.heap.size+1) [.int .i64 X0,.int .i64 X1] w2 from by rw [<- hw2];have h9:=BxL.new 39 (w1.alloc (.cells #[.int .i64 wd,.slice pa na ca,.slice pb nb cb,.slice pc nc cc,.slice pd nd cd] 27)) [.int .i64 X0,.int .i64 X1];rw [sA] at h9;exact h9)
  rw [hw2]
  have HB2:=hid (HB1.trans (hb2.mono HB1.size));
  clear hb2 hw2
  by_cases he:er=4\/er=3\/er=8\/er=5
  · have hp:=parse_err l HP.out (by omega)
    obtain ⟨⟨j,c,hj,hpos,hcl⟩,hc⟩:=refused_in hp
    injection hpos with hLe hCe
    obtain ⟨L,hLL⟩:∃ L,j+1=L:=⟨_,rfl⟩
    rw [hLL] at hLe
    subst hLe
    obtain ⟨NR,hNR⟩:∃ n,(rowsNL l).length=n:=⟨_,rfl⟩
    have h1L:1<=L:=by omega
    have hLN:L<=NR:=by omega
    have HNL:=hid (show NR<=70000 from by rw [<- hNR,(rows_end l.length l lrf).1];have:=List.count_le_length (a:=(10:UInt8)) (l:=l);have:=HL.1;omega)
    have hshl:=short_len (s:=l) h1L (by omega)
    have hRl:((rowsNL l).take L).length=L:=by rw [List.length_take];omega
    obtain ⟨sh,hsh⟩:∃ x,nlJ ((rowsNL l).take L)=x:=⟨_,rfl⟩
    rw [hsh] at hshl
    obtain ⟨⟨E0,E1⟩,hee⟩:∃ x,endOf sh=x:=⟨_,rfl⟩
    obtain ⟨ev,hev⟩:∃ ev,ev=er:=⟨_,rfl⟩
    have HPK:=hid (show ∀ o oa,tok l=.ok o->tok a=.ok oa->(ev ≠ 4->parseE sh=.error (((L:Int),X1),er))/\(parseE sh=.error (((L:Int),X1),er)->((L:Int),X1) ≠ (E0,E1)->parseE (sh++10 :: a)=.error (((L:Int),X1),er)) from fun o oa h2 h3=>by
      have h:=prefix_keep HL.1 HL.2 hp he h2 h3 h1L (by omega)
      rw [hsh,hee] at h
      exact ⟨fun h4=>h.1 (by rw [<- hev];exact h4),h.2⟩)
    have HSP:=hid (show ∀ W,Below w.heap.size w W->Calls Tryz.prog 33 #[.string ⟨l.toArray⟩,.string ⟨#[10]⟩] W (fun e w'=>e=.returned (.slice (some ⟨W.heap.size,0,none⟩) NR NR)/\BxL 9 W.heap.size ((rowsNL l).map fun r=>Value.string ⟨r.toArray⟩) w'/\Below W.heap.size W w') from fun W hW=>by have h:=split_any l m W (by have:=HL.1;omega) (HMB.out W hW);rwa [hNR] at h)
    have HJN:=hid (show ∀ (W:World) (b:Nat),BxL 9 b ((rowsNL l).map fun r=>Value.string ⟨r.toArray⟩) W->Calls Tryz.prog 36 #[.slice (some ⟨b,0,none⟩) L NR,.string ⟨#[10]⟩] W (fun e w'=>e=.returned (.string ⟨sh.toArray⟩)/\Below W.heap.size W w') from fun W b hz=>by
      have h:=join_any ((rowsNL l).take L) b NR W (fun k hk=>hz.at k (by rw [List.getElem?_map,List.getElem?_eq_getElem (by omega),List.getElem_take];rfl)) hz.lt (by omega) (by have:=HNL.out;omega) (by rw [hsh];have:=HL.1;omega)
      rwa [hRl,hsh] at h)
    obtain ⟨⟨p2,⟨Y0,Y1⟩,fr⟩,hp2⟩:∃ x,parseM sh=x:=⟨_,rfl⟩
    have HPB:=hid (show ∀ W,Below w.heap.size w W->Calls Tryz.prog 28 #[.string ⟨sh.toArray⟩] W (fun e w'=>(∃ wd pa na ca pb nb cb pc nc cc pd nd cd,e=.returned (.tuple #[.agg #[.int .i64 wd,.slice pa na ca,.slice pb nb cb,.slice pc nc cc,.slice pd nd cd],.agg #[.int .i64 Y0,.int .i64 Y1],.int .i64 fr]))/\Below W.heap.size W w') from fun W hW=>parse_tri sh m W (HE.below hW) (HMB.out W hW) (by rw [hp2]))
    have HED:=hid (show ∀ W,Below w.heap.size w W->Calls Tryz.prog 37 #[.string ⟨sh.toArray⟩] W (fun e w'=>e=.returned (.agg #[.int .i64 E0,.int .i64 E1])/\Below W.heap.size W w') from fun W hW=>by have h:=ended_any sh m W (by have:=HL.1;omega) (HMB.out W hW);rwa [hee] at h)
    have HP2:=hid hp2;have HSL:=hid hshl
    have t1:decide ((L:Int)<1)=false:=decide_eq_false (by omega)
    have t2:decide ((NR:Int)<(L:Int))=false:=decide_eq_false (by omega)
    have t3:(L:Int)<=(NR:Int):=by omega
    have t4:¬ NR<L:=by omega
    have HEV:=hid hev
    clear hp hj hcl hc hCe hLL hNR hsh hRl hshl hp2 hee hev
    rcases he with rfl | rfl | rfl | rfl
    all_goals
      go_upto_region 6 with (go_at_call 33;(with_reducible refine (HSP.out _ HB2.out).mono ?_);rintro e w3 ⟨rfl,hz,hb⟩;have HB3:=hid (HB2.out.trans (hb.mono HB2.out.size));have HX3:=hid (HX2.out.bel hb);have HZ3:=hid hz;clear hb hz)
      have n0:=HX3.at 0 rfl
      go_upto_region 9 with (go_at_call 35;(with_reducible refine (HLA.out _ HB3.out).mono ?_);rintro e w4 ⟨⟨lv,lx,ly,lc,rfl,htk⟩,hb⟩;have HB4:=hid (HB3.out.trans (hb.mono HB3.out.size));have HX4:=hid (HX3.out.bel hb);have HZ4:=hid (HZ3.out.bel hb);clear hb n0)
      have HTA:=hid htk
      clear htk
      obtain ⟨w5,hw5⟩:∃ W,w4.alloc (.cells #[.int .i64 lx,.int .i64 ly] 39)=W:=⟨_,rfl⟩
      have hb5:Below w4.heap.size w4 w5:=by rw [<- hw5];exact bA
      rw [hw5]
      have HB5:=hid (HB4.trans (hb5.mono HB4.size));have HX5:=hid (HX4.bel hb5);have HZ5:=hid (HZ4.bel hb5);
      clear hb5 hw5
      by_cases hlc:lc=0
      · subst hlc
        go_upto_region 12 with (go_at_call 35;(with_reducible refine (HLB.out _ HB5.out).mono ?_);rintro e w6 ⟨⟨lv2,lx,ly,lc,rfl,htk⟩,hb⟩;have HB6:=hid (HB5.out.trans (hb.mono HB5.out.size));have HX6:=hid (HX5.out.bel hb);have HZ6:=hid (HZ5.out.bel hb);clear hb)
        have HTB:=hid htk
        clear htk
        obtain ⟨w7,hw7⟩:∃ W,w6.alloc (.cells #[.int .i64 lx,.int .i64 ly] 39)=W:=⟨_,rfl⟩
        have hb7:Below w6.heap.size w6 w7:=by rw [<- hw7];exact bA
        rw [hw7]
        have HB7:=hid (HB6.trans (hb7.mono HB6.size));have HX7:=hid (HX6.bel hb7);have HZ7:=hid (HZ6.bel hb7);
        clear hb7 hw7
        by_cases hlc:lc=0
        · subst hlc
          have n0:=HX7.at 0 rfl
          go_upto_region 15 with (go_at_call 36;(with_reducible refine (HJN.out _ _ HZ7.out).mono ?_);rintro e w8 ⟨rfl,hb⟩;have HB8:=hid (HB7.out.trans (hb.mono HB7.out.size));have HX8:=hid (HX7.out.bel hb);clear hb n0)
          go_upto_region 16 with (go_at_call 28;(with_reducible refine (HPB.out _ HB8.out).mono ?_);rintro e w9 ⟨⟨wd,pa,na,ca,pb,nb,cb,pc,nc,cc,pd,nd,cd,rfl⟩,hb⟩;have HB9:=hid (HB8.out.trans (hb.mono HB8.out.size));have HX9:=hid (HX8.out.bel hb);clear hb)
          obtain ⟨o,ho⟩:=HTA.out (by trivial)
          obtain ⟨oa,hoa⟩:=HTB.out (by trivial)
          have HK:=hid (HPK.out o oa ho hoa)
          clear ho hoa
          obtain ⟨w10,hw10⟩:∃ W,(w9.alloc (.cells #[.int .i64 wd,.slice pa na ca,.slice pb nb cb,.slice pc nc cc,.slice pd nd cd] 27)).alloc (.cells #[.int .i64 Y0,.int .i64 Y1] 39)=W:=⟨_,rfl⟩
          have hb10:Below w9.heap.size w9 w10:=by rw [<- hw10];exact (bA).alloc (by rw [sA];omega) _
          have HY10:=hid (show BxL 39 (w9.heap.size+1) [.int .i64 Y0,.int .i64 Y1] w10 from by rw [<- hw10];have h9:=BxL.new 39 (w9.alloc (.cells #[.int .i64 wd,.slice pa na ca,.slice pb nb cb,.slice pc nc cc,.slice pd nd cd] 27)) [.int .i64 Y0,.int .i64 Y1];rw [sA] at h9;exact h9)
          rw [hw10]
          have HB10:=hid (HB9.trans (hb10.mono HB9.size));have HX10:=hid (HX9.bel hb10);
          clear hb10 hw10
          have n0:=HX10.at 0 rfl;have n1:=HX10.at 1 rfl
          have k0:=HY10.at 0 rfl;have k1:=HY10.at 1 rfl
          by_cases hmt:fr=ev/\Y0=(L:Int)/\Y1=X1
          · obtain ⟨h5,h6,h7⟩:=hmt
            have h5:=h5.trans HEV.out;have h7:=h7.symm
            subst h5;subst h6;subst h7
            by_cases he0:(L:Int)=E0
            · subst he0
              by_cases he1:X1=E1
              · subst he1
                go_upto_region 18 with fail
                have hS:(fun W:World=>W.cell? ⟨w1.heap.size+1,0,none⟩=some (.int .i64 (L:Int))/\W.cell? ⟨w1.heap.size+1,1,none⟩=some (.int .i64 X1)) w10.drew:=⟨HX10.dr.at 0 rfl,HX10.dr.at 1 rfl⟩
                have HBd:=hid (HB10.drew);have HXd:=hid (HX10.dr)
                have hFa:=fT
                refine rgN (fun W:World=>W.cell? ⟨w1.heap.size+1,0,none⟩=some (.int .i64 (L:Int))/\W.cell? ⟨w1.heap.size+1,1,none⟩=some (.int .i64 X1)) 4 (by kernel_rfl) ?_
                simp only [zP,Nat.reduceAdd]
                iterate 2 (refine nxW (v:=?_) 4 hS ?_ ?_;rotate_left;(focus rintro w' ⟨s0,s1⟩;(try go_simp);try rfl);simp only [aP])
                refine oy 2 fun K hK=>?_
                go_simp
                (with_reducible refine (callsIn_wide.2 (HED.out _ HBd.out)).mono ?_)
                rintro e we ⟨rfl,hb⟩
                have HBe:=hid (HBd.trans (hb.mono HBd.size));have HXe:=hid (HXd.bel hb)
                have hSe:(fun W:World=>W.cell? ⟨w1.heap.size+1,0,none⟩=some (.int .i64 (L:Int))/\W.cell? ⟨w1.heap.size+1,1,none⟩=some (.int .i64 X1)) we:=⟨HXe.at 0 rfl,HXe.at 1 rfl⟩
                clear hb
                refine hK _ _ (.inr (.inr hSe)) ?_
                clear hK K
                (refine nxW (v:=?_) 4 hSe ?_ ?_;rotate_left;(focus rintro w' ⟨s0,s1⟩;(try go_simp);try rfl);simp only [aP])
                refine wpHJ_done (by kernel_rfl) ?_ _
                simp only [onlyN,Exit.then]
                clear hFa
                go_wp2_with ((go_at_call 25;(with_reducible refine (awake23_any m _ (HE.out.below HBe.out) (HMB.out _ HBe.out)).mono ?_);rintro e wz ⟨rfl,hb⟩;have HBF:=hid (HBe.out.trans (hb.mono HBe.out.size));clear hb))
                go_ret
                exact ⟨rfl,HBF.out⟩
              · have HNE:=hid (show ((L:Int),X1) ≠ ((L:Int),E1) from fun h=>he1 (by injection h))
                have HQ:=hid (parse_err sh HP2.out (by decide))
                go_upto_region 18 with fail
                have hS:(fun W:World=>W.cell? ⟨w1.heap.size+1,0,none⟩=some (.int .i64 (L:Int))/\W.cell? ⟨w1.heap.size+1,1,none⟩=some (.int .i64 X1)) w10.drew:=⟨HX10.dr.at 0 rfl,HX10.dr.at 1 rfl⟩
                have HBd:=hid (HB10.drew);have HXd:=hid (HX10.dr)
                have hFa:=fT
                refine rgN (fun W:World=>W.cell? ⟨w1.heap.size+1,0,none⟩=some (.int .i64 (L:Int))/\W.cell? ⟨w1.heap.size+1,1,none⟩=some (.int .i64 X1)) 4 (by kernel_rfl) ?_
                simp only [zP,Nat.reduceAdd]
                iterate 2 (refine nxW (v:=?_) 4 hS ?_ ?_;rotate_left;(focus rintro w' ⟨s0,s1⟩;(try go_simp);try rfl);simp only [aP])
                refine oy 2 fun K hK=>?_
                go_simp
                (with_reducible refine (callsIn_wide.2 (HED.out _ HBd.out)).mono ?_)
                rintro e we ⟨rfl,hb⟩
                have HBe:=hid (HBd.trans (hb.mono HBd.size));have HXe:=hid (HXd.bel hb)
                have hSe:(fun W:World=>W.cell? ⟨w1.heap.size+1,0,none⟩=some (.int .i64 (L:Int))/\W.cell? ⟨w1.heap.size+1,1,none⟩=some (.int .i64 X1)) we:=⟨HXe.at 0 rfl,HXe.at 1 rfl⟩
                clear hb
                refine hK _ _ (.inr (.inr hSe)) ?_
                clear hK K
                (refine nxW (v:=?_) 4 hSe ?_ ?_;rotate_left;(focus rintro w' ⟨s0,s1⟩;(try go_simp);try rfl);simp only [aP])
                refine wpHJ_done (by kernel_rfl) ?_ _
                simp only [onlyN,Exit.then]
                clear hFa
                have zz:¬ 9223372036854775807<sh.length+1:=by have:=HSL.out;have:=HL.1;omega
                have zy:¬ 9223372036854775807<sh.length+1+a.length:=by have:=HSL.out;have:=HL.out;omega
                have zs:(⟨sh.toArray⟩:ByteArray).size=sh.length:=rfl
                have za:(⟨a.toArray⟩:ByteArray).size=a.length:=rfl
                have HPC:=hid (fun W (hW:Below w.heap.size w W)=>parse_three sh a m W (HE.below hW) (HMB.out W hW) (HK.2 HQ.out HNE.out))
                go_upto_region 21 with (go_at_call 28;(with_reducible refine (HPC.out _ HBe.out).mono ?_);rintro e w11 ⟨⟨wd,pa,na,ca,pb,nb,cb,pc,nc,cc,pd,nd,cd,rfl⟩,hb⟩;have HB11:=hid (HBe.out.trans (hb.mono HBe.out.size));have HX11:=hid (HXe.out.bel hb);clear hb)
                obtain ⟨w12,hw12⟩:∃ W,(w11.alloc (.cells #[.int .i64 wd,.slice pa na ca,.slice pb nb cb,.slice pc nc cc,.slice pd nd cd] 27)).alloc (.cells #[.int .i64 (L:Int),.int .i64 X1] 39)=W:=⟨_,rfl⟩
                have hb12:Below w11.heap.size w11 w12:=by rw [<- hw12];exact (bA).alloc (by rw [sA];omega) _
                have HY12:=hid (show BxL 39 (w11.heap.size+1) [.int .i64 (L:Int),.int .i64 X1] w12 from by rw [<- hw12];have h9:=BxL.new 39 (w11.alloc (.cells #[.int .i64 wd,.slice pa na ca,.slice pb nb cb,.slice pc nc cc,.slice pd nd cd] 27)) [.int .i64 (L:Int),.int .i64 X1];rw [sA] at h9;exact h9)
                rw [hw12]
                have HB12:=hid (HB11.trans (hb12.mono HB11.size));have HX12:=hid (HX11.bel hb12);
                clear hb12 hw12
                have n0:=HX12.at 0 rfl;have n1:=HX12.at 1 rfl
                have k0:=HY12.at 0 rfl;have k1:=HY12.at 1 rfl
                go_wp2_with ((go_at_call 25;(with_reducible refine (awake23_any m _ (HE.out.below HB12.out) (HMB.out _ HB12.out)).mono ?_);rintro e wz ⟨rfl,hb⟩;have HBF:=hid (HB12.out.trans (hb.mono HB12.out.size));clear hb))
                go_ret
                exact ⟨rfl,HBF.out⟩
            · have HNE:=hid (show ((L:Int),X1) ≠ (E0,E1) from fun h=>he0 (by injection h))
              have HQ:=hid (parse_err sh HP2.out (by decide))
              go_upto_region 18 with fail
              have hS:(fun W:World=>W.cell? ⟨w1.heap.size+1,0,none⟩=some (.int .i64 (L:Int))/\W.cell? ⟨w1.heap.size+1,1,none⟩=some (.int .i64 X1)) w10.drew:=⟨HX10.dr.at 0 rfl,HX10.dr.at 1 rfl⟩
              have HBd:=hid (HB10.drew);have HXd:=hid (HX10.dr)
              have hFa:=fT
              refine rgN (fun W:World=>W.cell? ⟨w1.heap.size+1,0,none⟩=some (.int .i64 (L:Int))/\W.cell? ⟨w1.heap.size+1,1,none⟩=some (.int .i64 X1)) 4 (by kernel_rfl) ?_
              simp only [zP,Nat.reduceAdd]
              iterate 2 (refine nxW (v:=?_) 4 hS ?_ ?_;rotate_left;(focus rintro w' ⟨s0,s1⟩;(try go_simp);try rfl);simp only [aP])
              refine oy 2 fun K hK=>?_
              go_simp
              (with_reducible refine (callsIn_wide.2 (HED.out _ HBd.out)).mono ?_)
              rintro e we ⟨rfl,hb⟩
              have HBe:=hid (HBd.trans (hb.mono HBd.size));have HXe:=hid (HXd.bel hb)
              have hSe:(fun W:World=>W.cell? ⟨w1.heap.size+1,0,none⟩=some (.int .i64 (L:Int))/\W.cell? ⟨w1.heap.size+1,1,none⟩=some (.int .i64 X1)) we:=⟨HXe.at 0 rfl,HXe.at 1 rfl⟩
              clear hb
              refine hK _ _ (.inr (.inr hSe)) ?_
              clear hK K
              (refine nxW (v:=?_) 4 hSe ?_ ?_;rotate_left;(focus rintro w' ⟨s0,s1⟩;(try go_simp);try rfl);simp only [aP])
              refine wpHJ_done (by kernel_rfl) ?_ _
              simp only [onlyN,Exit.then]
              clear hFa
              have zz:¬ 9223372036854775807<sh.length+1:=by have:=HSL.out;have:=HL.1;omega
              have zy:¬ 9223372036854775807<sh.length+1+a.length:=by have:=HSL.out;have:=HL.out;omega
              have zs:(⟨sh.toArray⟩:ByteArray).size=sh.length:=rfl
              have za:(⟨a.toArray⟩:ByteArray).size=a.length:=rfl
              have HPC:=hid (fun W (hW:Below w.heap.size w W)=>parse_three sh a m W (HE.below hW) (HMB.out W hW) (HK.2 HQ.out HNE.out))
              go_upto_region 21 with (go_at_call 28;(with_reducible refine (HPC.out _ HBe.out).mono ?_);rintro e w11 ⟨⟨wd,pa,na,ca,pb,nb,cb,pc,nc,cc,pd,nd,cd,rfl⟩,hb⟩;have HB11:=hid (HBe.out.trans (hb.mono HBe.out.size));have HX11:=hid (HXe.out.bel hb);clear hb)
              obtain ⟨w12,hw12⟩:∃ W,(w11.alloc (.cells #[.int .i64 wd,.slice pa na ca,.slice pb nb cb,.slice pc nc cc,.slice pd nd cd] 27)).alloc (.cells #[.int .i64 (L:Int),.int .i64 X1] 39)=W:=⟨_,rfl⟩
              have hb12:Below w11.heap.size w11 w12:=by rw [<- hw12];exact (bA).alloc (by rw [sA];omega) _
              have HY12:=hid (show BxL 39 (w11.heap.size+1) [.int .i64 (L:Int),.int .i64 X1] w12 from by rw [<- hw12];have h9:=BxL.new 39 (w11.alloc (.cells #[.int .i64 wd,.slice pa na ca,.slice pb nb cb,.slice pc nc cc,.slice pd nd cd] 27)) [.int .i64 (L:Int),.int .i64 X1];rw [sA] at h9;exact h9)
              rw [hw12]
              have HB12:=hid (HB11.trans (hb12.mono HB11.size));have HX12:=hid (HX11.bel hb12);
              clear hb12 hw12
              have n0:=HX12.at 0 rfl;have n1:=HX12.at 1 rfl
              have k0:=HY12.at 0 rfl;have k1:=HY12.at 1 rfl
              go_wp2_with ((go_at_call 25;(with_reducible refine (awake23_any m _ (HE.out.below HB12.out) (HMB.out _ HB12.out)).mono ?_);rintro e wz ⟨rfl,hb⟩;have HBF:=hid (HB12.out.trans (hb.mono HB12.out.size));clear hb))
              go_ret
              exact ⟨rfl,HBF.out⟩
          · first
            | exact (hmt (err_eq (HK.out.1 (by rw [HEV.out];decide)) HP2.out HEV.out)).elim
            | (by_cases h5:fr=ev
               · have h5:=h5.trans HEV.out
                 subst h5
                 by_cases h6:Y0=(L:Int)
                 · subst h6
                   have h7:¬ Y1=X1:=fun h=>hmt ⟨HEV.out.symm,rfl,h⟩
                   clear hmt
                   go_wp2_with ((go_at_call 25;(with_reducible refine (awake23_any m _ (HE.out.below HB10.out) (HMB.out _ HB10.out)).mono ?_);rintro e wz ⟨rfl,hb⟩;have HBF:=hid (HB10.out.trans (hb.mono HB10.out.size));clear hb))
                   go_ret
                   exact ⟨rfl,HBF.out⟩
                 · clear hmt
                   go_wp2_with ((go_at_call 25;(with_reducible refine (awake23_any m _ (HE.out.below HB10.out) (HMB.out _ HB10.out)).mono ?_);rintro e wz ⟨rfl,hb⟩;have HBF:=hid (HB10.out.trans (hb.mono HB10.out.size));clear hb))
                   go_ret
                   exact ⟨rfl,HBF.out⟩
               · have h5:¬ fr=4:=fun h=>h5 (by rw [HEV.out];exact h)
                 have h8:(fr != 4)=true:=by rw [bne_iff_ne];exact h5
                 clear hmt
                 go_wp2_with ((go_at_call 25;(with_reducible refine (awake23_any m _ (HE.out.below HB10.out) (HMB.out _ HB10.out)).mono ?_);rintro e wz ⟨rfl,hb⟩;have HBF:=hid (HB10.out.trans (hb.mono HB10.out.size));clear hb))
                 go_ret
                 exact ⟨rfl,HBF.out⟩
          )
        · have g9:(lc == 0)=false:=by rw [beq_eq_false_iff_ne];exact hlc
          clear hlc
          go_wp2_with ((go_at_call 25;(with_reducible refine (awake23_any m _ (HE.out.below HB7.out) (HMB.out _ HB7.out)).mono ?_);rintro e wz ⟨rfl,hb⟩;have HBF:=hid (HB7.out.trans (hb.mono HB7.out.size));clear hb))
          go_ret
          exact ⟨rfl,HBF.out⟩
      · have g9:(lc == 0)=false:=by rw [beq_eq_false_iff_ne];exact hlc
        clear hlc
        go_wp2_with ((go_at_call 25;(with_reducible refine (awake23_any m _ (HE.out.below HB5.out) (HMB.out _ HB5.out)).mono ?_);rintro e wz ⟨rfl,hb⟩;have HBF:=hid (HB5.out.trans (hb.mono HB5.out.size));clear hb))
        go_ret
        exact ⟨rfl,HBF.out⟩
  · have g1:(er != 4)=true:=by rw [bne_iff_ne];omega
    have g2:(er != 3)=true:=by rw [bne_iff_ne];omega
    have g3:(er != 8)=true:=by rw [bne_iff_ne];omega
    have g4:(er != 5)=true:=by rw [bne_iff_ne];omega
    clear he
    go_wp2_with ((go_at_call 25;(with_reducible refine (awake23_any m _ (HE.out.below HB2.out) (HMB.out _ HB2.out)).mono ?_);rintro e wz ⟨rfl,hb⟩;have HBF:=hid (HB2.out.trans (hb.mono HB2.out.size));clear hb))
    go_ret
    exact ⟨rfl,HBF.out⟩
theorem parsePrefix_any (sb sa:ByteArray) (w:World) (hs:sb.size<=9223372036854775807) (hs2:sa.size<=9223372036854775807) (hE:PrE0 w) (hm:∃ m,w.cell? ⟨0,0,none⟩=some (.int .i64 m)) :
  Calls Tryz.prog 9 #[.string sb,.string sa] w fun e w'=>e=.returned (.bool true)/\Below w.heap.size w w':=by
 obtain ⟨m,hm⟩:=hm
 have hx:(sb.extract 0 (min (↑sb.size) 1500:Int).toNat).size<=1500:=by
  show (sb.extract 0 _).data.size<=1500
  rw [ByteArray.data_extract,Array.size_extract];omega
 have hy:(sa.extract 0 (min (↑sa.size) 300:Int).toNat).size<=300:=by
  show (sa.extract 0 _).data.size<=300
  rw [ByteArray.data_extract,Array.size_extract];omega
 obtain ⟨l,hl⟩:∃ l:Bs,sb.extract 0 (min (↑sb.size) 1500:Int).toNat=⟨l.toArray⟩:=⟨(sb.extract 0 (min (↑sb.size) 1500:Int).toNat).data.toList,rfl⟩
 obtain ⟨a,ha⟩:∃ l:Bs,sa.extract 0 (min (↑sa.size) 300:Int).toNat=⟨l.toArray⟩:=⟨(sa.extract 0 (min (↑sa.size) 300:Int).toNat).data.toList,rfl⟩
 rw [hl] at hx
 rw [ha] at hy
 exact prefix_any l a sb sa m w hE hm hl ha hx hy
end Go.Proofs.YtoofbgoeipijcaaGreatDoor
