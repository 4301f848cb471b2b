/-
 A part.
-/
import Derived.Test.YtoofbgoeipijcaaGreatDoorVSPrF
import Derived.Test.YtoofbgoeipijcaaGreatDoorVB12
namespace Go.Proofs.YtoofbgoeipijcaaGreatDoor
set_option linter.all false
open Go.RowKit Go.Shelf
attribute [local go_sem] Oper.semAt_some
structure IL (B:Nat) (w0:World) (C:CK) (vl:Value) (rs:List Nat) (S:CS) (m:Nat) (lbl st:List Bs) (W:World):Prop where
 ck:Ck B W C vl rs { S with sites:=st }
 nm:NmS W m lbl
 but:But (fun k=>k=C.ms) w0 W
 pr:PrB B W
 off:Off B C vl rs m
 ge:w0.heap.size<=m
variable {B:Nat} {w0 W W':World} {C:CK} {vl:Value} {rs:List Nat} {S:CS} {m:Nat} {lbl st:List Bs}
theorem IL.below (h:IL B w0 C vl rs S m lbl st W) (hb:Below W.heap.size W W'):IL B w0 C vl rs S m lbl st W' :=
 ⟨h.ck.below hb,h.nm.keep (hb.block m h.nm.lt),h.but.trans (But.of_below _ hb),h.pr.step (hb.mono h.ck.size),h.off,h.ge⟩
theorem IL.drew (h:IL B w0 C vl rs S m lbl st W):IL B w0 C vl rs S m lbl st W.drew:=h.below (Below.refl _ _).drew
theorem IL.bel (h:IL B w0 C vl rs S m lbl st W) (hB:B<=w0.heap.size):Below B w0 W:=h.but.below hB fun k hk=>by rw [hk];exact h.ck.ge.2.2.2.1
theorem IL.c5 (h:IL B w0 C vl rs S m lbl st W):W.cell? ⟨C.cb,5,none⟩=some (.map (some C.mc)):=h.ck.box.at 5 rfl
theorem IL.c6 (h:IL B w0 C vl rs S m lbl st W):W.cell? ⟨C.cb,6,none⟩=some (.map (some C.ma)):=h.ck.box.at 6 rfl
theorem IL.c7 (h:IL B w0 C vl rs S m lbl st W):W.cell? ⟨C.cb,7,none⟩=some (.map (some C.ms)):=h.ck.box.at 7 rfl
theorem IL.site (h:IL B w0 C vl rs S m lbl st W) {s:Bs} (hm:NmS W' C.ms (addN st s)) (hg:W.grownBy W' (some C.ms)):IL B w0 C vl rs S m lbl (addN st s) W':=by
 have hb:=But.of_grown hg
 have h1:=h.ck.setSt hb hm
 refine ⟨h1,h.nm.keep (hb.block m h.nm.lt fun e=>h.off.2.2.2.2.1 e),h.but.trans hb,h.pr.step (hb.below h.ck.size fun k hk=>by rw [hk];exact h.ck.ge.2.2.2.1),h.off,h.ge⟩
theorem IL.label (h:IL B w0 C vl rs S m lbl st W) {l:List Bs} (hm:NmS W' m l) (hg:W.grownBy W' (some m)):IL B w0 C vl rs S m l st W':=by
 have hb:=But.of_grown hg
 have hk:=h.nm.lt
 refine ⟨h.ck.but hb fun k hk=>by rw [hk];exact h.off,hm,⟨hb.os.trans h.but.os,hb.tape.trans h.but.tape,hb.output.trans h.but.output,Nat.le_trans h.but.size hb.size,fun k hk hne=>(hb.block k (Nat.lt_of_lt_of_le hk h.but.size) (fun e=>by have:=h.ge;omega)).trans (h.but.block k hk hne)⟩,
  h.pr.step (hb.below h.ck.size fun k hk=>by rw [hk];exact h.off.1),h.off,h.ge⟩
def IsPost (B:Nat) (w:World) (C:CK) (vl:Value) (rs:List Nat) (S:CS) (res:Except Flt (List Bs × List Bs)) (e:Ending) (w':World):Prop :=
 match res with
 | .error f=>e=.panicked (fltC f)/\Below B w w'
 | .ok (l,s)=>e=.returned (.tuple #[])/\∃ vl' r,Ck B w' C vl' (rs++[r]) { S with sites:=s,labels:=S.labels++[l] }/\But (fun k=>k=C.cb\/k=C.ms\/vl.ownBlock=some k) w w'/\w.heap.size<=r/\Moved w vl vl'
theorem IsPost.bad {w:World} {f:Flt} {w':World} (hb:Below B w w'):IsPost B w C vl rs S (.error f) (.panicked (fltC f)) w':=⟨rfl,hb⟩
theorem stepM_form {ch ar:List Bs} {mn:Bool} {l s:List Bs} {x:In} (h:(formB x && !(mn && decide (x.kind=12)))=false):stepM ch ar mn l s x=.error (x.pos,4):=by unfold stepM;rw [if_pos h]
theorem stepM_rest {ch ar:List Bs} {mn:Bool} {l s:List Bs} {x:In} (h:(formB x && !(mn && decide (x.kind=12)))=true):stepM ch ar mn l s x =
  if x.kind=5\/x.kind=6 then (if ch.contains x.nm then .ok (l,s) else .error (x.pos,6))
  else if x.kind=2\/x.kind=3 then (if ar.contains x.nm then .ok (l,s) else .error (x.pos,6))
  else if x.kind=10 then (if l.contains x.nm then .error (x.pos,8) else .ok (l++[x.nm],s))
  else if x.kind=7 then (if s.contains x.nm || decide (s.length<32) then .ok (l,addN s x.nm) else .error (x.pos,5))
  else .ok (l,s):=by
 unfold stepM
 rw [if_neg (by rw [h];decide)]
 split
 ·split <;> rfl
 ·split
  ·split <;> rfl
  ·split
   ·split <;> rfl
   ·split
    ·unfold addN
     by_cases h1:s.contains x.nm=true
     ·rw [if_pos h1,if_pos h1,h1];rfl
     ·have h1':s.contains x.nm=false:=by simpa using h1
      rw [if_neg h1,if_neg h1,h1',Bool.false_or]
      by_cases h2:s.length<32
      ·rw [if_pos h2,decide_eq_true h2];rfl
      ·rw [if_neg h2,decide_eq_false h2];rfl
    ·rfl
def bodyNext (ch ar:List Bs) (mn:Bool) (r:List In):Except Flt (List Bs × List Bs)->Except Flt (List Bs × List Bs)
 | .error f => .error f
 | .ok (l,s)=>bodyM ch ar mn r l s
theorem bodyM_cons (ch ar:List Bs) (mn:Bool) (x:In) (r:List In) (l s:List Bs):bodyM ch ar mn (x :: r) l s=bodyNext ch ar mn r (stepM ch ar mn l s x):=by
 conv=>lhs;unfold bodyM
 cases stepM ch ar mn l s x with
 | error f=>rfl
 | ok q=>obtain ⟨a,b⟩:=q;rfl
theorem info_nm:(Tryz.prog.info? 119).map (fun i=>(i.zero,i.size,i.bytes))=some (some (.map none),kMap.n,8):=by kernel_rfl
theorem len_run {P:Program} {w:World} (t kt e ty:TypeId) (ht:P.underlying t=some (.map kt e)) {r:Nat} {d:List Ent} (h:MapS w r d):(Builtin.len_ #[t] ty #[.map (some r)]).run P w=.ok (.int .i64 (d.length:Int)) w:=by
 obtain ⟨es,clk,hb,hr⟩:=h
 have hl:es.size=d.length:=by
  have:=congrArg List.length hr
  simpa using this
 simp [Builtin.len_,run_underlying ht,MapKept.run_getObj_map hb,goInt,hl,Result.andThen]
set_option maxRecDepth 100000 in
set_option maxHeartbeats 8000000 in
theorem instrs_any (main:Bool) (l:List In) (pos:Int × Int) (v:Value) (w:World) (hck:Ck B w C vl rs S) (hpr:PrB B w) (h:SlG kIn (·<B) w v l) (hko:∀ x ∈ l,x.kind<=255/\x.op<=255) (hrs:rs.length<=1000)
  (res:Except Flt (List Bs × List Bs)) (hres:instrsM S.chans S.arrays main pos l S.sites=res) :
  Calls Tryz.prog 120 #[.pointer (some ⟨C.cb,0,none⟩),v,posV pos,.bool main] w (IsPost B w C vl rs S res):=by
 obtain ⟨q,c,rfl⟩:=h.slc
 have HS:=hid h;have HBS:=hid hck.size;have HCK:=hid hck;have HPR:=hid hpr;have HKA:=hid hko;have HRS:=hid hrs
 have hmm:=@run_makeMap Tryz.prog
 clear h hck hpr hko hrs
 unfold posV
 by_cases hlen:1024<l.length
 ·have HR:=hid (show (.error (pos,5):Except Flt (List Bs × List Bs))=res from by rw [<- hres];unfold instrsM;rw [if_pos hlen])
  have t0:decide ((l.length:Int)<=1024)=false:=by simp;omega
  clear hlen hres
  go_enter Tryz.func120,Tryz.ntmps120
  go_wp2_with (go_at_call 118;with_reducible refine (need_false pos 5 _).mono ?_;rintro e w9 ⟨rfl,hb9⟩;have HB9:=hid ((bA).trans (hb9.mono (by rw [sA];omega)));clear hb9)
  exact ⟨rfl,by rw [<- HR.out];exact IsPost.bad (HB9.mono HBS.out)⟩
 have t0:decide ((l.length:Int)<=1024)=true:=by simp;omega
 have HL0:=hid (show bodyM S.chans S.arrays main (l.drop 0) [] S.sites=res from by rw [<- hres];unfold instrsM;rw [if_neg hlen];rfl)
 clear hlen hres
 go_enter Tryz.func120,Tryz.ntmps120
 go_upto_region 2 with (go_at_call 118;with_reducible refine (need_true pos 5 _).mono ?_;rintro e w1 ⟨rfl,hb1⟩;have hb:=(bA).trans (hb1.mono (by rw [sA];omega)))
 have HB1:=hid (show Below w.heap.size w w1 from hb)
 clear hb hb1
 go_wp2_with fail
 go_loopw [10,19] (fun v10 iv wr=>∃ (k:Nat) (lbl st:List Bs),k<=l.length/\iv=.int .i64 (k:Int)/\bodyM S.chans S.arrays main (l.drop k) lbl st=res/\IL B w C vl rs S w1.heap.size lbl st wr) (fun _ iv _=>l.length - (intOf iv).toNat)
 case atStart =>
  have hc1:=HCK.below HB1.out
  refine ⟨0,[],S.sites,Nat.zero_le _,rfl,HL0.out,⟨hc1.below (bA),NmS.new w1,(But.of_below _ HB1.out).trans (But.of_below _ (bA)),HPR.step ((HB1.alloc HB1.size _).mono HBS.out),hc1.apart lrf,HB1.size⟩⟩
 case round =>
  obtain ⟨k,lbl,st,hk,rfl,hm,hil⟩:=hrel
  by_cases hlt:k<l.length
  ·rw [List.drop_eq_getElem_cons hlt,bodyM_cons] at hm
   obtain ⟨b,off,rfl,hR,hcells⟩:=in_at HS.out (by omega:0<l.length)
   obtain ⟨pa,ca,hsa,c0,c1,c2,c3,c4,c5,c6⟩:=hcells k hlt
   have hbr:=hil.bel HBS.out
   have d0:=(hbr.cell (p:=⟨b,off+k*7,none⟩) hR).trans c0
   have d1:=(hbr.cell (p:=⟨b,off+k*7+1,none⟩) hR).trans c1
   have d2:=(hbr.cell (p:=⟨b,off+k*7+2,none⟩) hR).trans c2
   have d3:=(hbr.cell (p:=⟨b,off+k*7+3,none⟩) hR).trans c3
   have d4:=(hbr.cell (p:=⟨b,off+k*7+4,none⟩) hR).trans c4
   have d5:=(hbr.cell (p:=⟨b,off+k*7+5,none⟩) hR).trans c5
   have d6:=(hbr.cell (p:=⟨b,off+k*7+6,none⟩) hR).trans c6
   have HSN:=hid hm;have HSA0:=hid hsa;have HKO:=hid (HKA.out _ (List.getElem_mem hlt))
   have HLT:=hid hlt;have HI:=hid hil
   clear hcells hsa c0 c1 c2 c3 c4 c5 c6 hR hbr hm hil
   generalize l[k]=x at *
   clear hlt
   go_upto_region 6 with fail
   obtain ⟨wo,hwo⟩:∃ W,wr.alloc (.cells #[.int .u8 (x.kind:Int),.int .u8 (x.op:Int),.string ⟨x.dst.toArray⟩,.string ⟨x.nm.toArray⟩,.slice pa x.args.length ca,.int .i64 x.pos.1,.int .i64 x.pos.2] 41)=W:=⟨_,rfl⟩
   have hbo:Below wr.heap.size wr wo:=by rw [<- hwo];exact bA
   have hbx:BxL 41 wr.heap.size (inL x (.slice pa x.args.length ca)) wo:=by rw [<- hwo];exact BxL.new _ _ _
   rw [hwo]
   have HIO:=hid (HI.below hbo)
   have HBX:=hid hbx
   clear hwo hbo hbx d0 d1 d2 d3 d4 d5 d6
   go_cut [] (fun wx=>(formB x && !(main && decide (x.kind=12)))=true/\IL B w C vl rs S w1.heap.size lbl st wx/\BxL 41 wr.heap.size (inL x (.slice pa x.args.length ca)) wx)
   case first =>
    have hS:(fun W=>W.cell? ⟨wr.heap.size,0,none⟩=some (.int .u8 (x.kind:Int))/\W.cell? ⟨wr.heap.size,1,none⟩=some (.int .u8 (x.op:Int))/\W.cell? ⟨wr.heap.size,2,none⟩=some (.string ⟨x.dst.toArray⟩)/\W.cell? ⟨wr.heap.size,3,none⟩=some (.string ⟨x.nm.toArray⟩)/\W.cell? ⟨wr.heap.size,4,none⟩=some (.slice pa x.args.length ca)/\W.cell? ⟨wr.heap.size,5,none⟩=some (.int .i64 x.pos.1)/\W.cell? ⟨wr.heap.size,6,none⟩=some (.int .i64 x.pos.2)) wo.drew:=⟨HBX.at 0 rfl,HBX.at 1 rfl,HBX.at 2 rfl,HBX.at 3 rfl,HBX.at 4 rfl,HBX.at 5 rfl,HBX.at 6 rfl⟩
    have HID:=hid HIO.drew
    have HBXD:=hid (show BxL 41 wr.heap.size (inL x (.slice pa x.args.length ca)) wo.drew from HBX.out)
    have HSA:=hid (show SlG kAg (·<wo.drew.heap.size) wo.drew (.slice pa x.args.length ca) x.args from HSA0.keep fun i hi=>⟨Nat.lt_of_lt_of_le hi HID.ck.size,(HID.bel HBS.out).block i hi⟩)
    cases hfb:formB x with
    | false =>
     have HFB:=hid hfb
     have HST:=hid (show (.error (x.pos,4):Except Flt (List Bs × List Bs))=res from by rw [<- HSN.out,stepM_form (by rw [hfb];rfl)];rfl)
     clear hfb
     have hFa:∀ f,Fence.wide.fn f:=fun _=>trivial
     refine (wpIn_wide (n:=9)).1 ?_
     refine wpIn_onlyP (fun c w'=>IsPost B w C vl rs S res (.panicked c) w') (fun _ _ _ h=>h) ?_
     refine wpIn_region_HJ (fun W=>W.cell? ⟨wr.heap.size,0,none⟩=some (.int .u8 (x.kind:Int))/\W.cell? ⟨wr.heap.size,1,none⟩=some (.int .u8 (x.op:Int))/\W.cell? ⟨wr.heap.size,2,none⟩=some (.string ⟨x.dst.toArray⟩)/\W.cell? ⟨wr.heap.size,3,none⟩=some (.string ⟨x.nm.toArray⟩)/\W.cell? ⟨wr.heap.size,4,none⟩=some (.slice pa x.args.length ca)/\W.cell? ⟨wr.heap.size,5,none⟩=some (.int .i64 x.pos.1)/\W.cell? ⟨wr.heap.size,6,none⟩=some (.int .i64 x.pos.2)) 13 (by kernel_rfl) ?_
     simp only [zP,Nat.reduceAdd]
     refine wpHJ_pure (v:=?v1) 11 hFa rfl (by kernel_rfl) onlyP_put (Or.inl ⟨by rfl,?y1⟩) (.inr hS) ?r1
     case y1=>(intro w' _;go_simp;try rfl)
     simp only [aP]
     refine wpHJ_take (v:=?v2) 12 hFa rfl (by kernel_rfl) onlyP_put (Or.inl ⟨by rfl,?y2⟩) hS ?r2
     case y2=>(rintro w' ⟨s0,s1,s2,s3,s4,s5,s6⟩;go_simp;try rfl)
     simp only [aP]
     refine oy 0 fun K hK=>?_
     go_simp
     refine hK _ _ (.inr (.inr hS)) ?_
     clear hK K
     refine oy 1 fun K hK=>?_
     go_simp
     (with_reducible refine (callsIn_wide.2 (formed_any x pa ca B wo.drew HID.out.pr HSA.out HKO.out.1 HKO.out.2)).mono ?_)
     rintro e w2 ⟨rfl,hb2⟩
     rw [HFB.out]
     have hS2:(fun W=>W.cell? ⟨wr.heap.size,0,none⟩=some (.int .u8 (x.kind:Int))/\W.cell? ⟨wr.heap.size,1,none⟩=some (.int .u8 (x.op:Int))/\W.cell? ⟨wr.heap.size,2,none⟩=some (.string ⟨x.dst.toArray⟩)/\W.cell? ⟨wr.heap.size,3,none⟩=some (.string ⟨x.nm.toArray⟩)/\W.cell? ⟨wr.heap.size,4,none⟩=some (.slice pa x.args.length ca)/\W.cell? ⟨wr.heap.size,5,none⟩=some (.int .i64 x.pos.1)/\W.cell? ⟨wr.heap.size,6,none⟩=some (.int .i64 x.pos.2)) w2:=⟨cB hb2 hS.1,cB hb2 hS.2.1,cB hb2 hS.2.2.1,cB hb2 hS.2.2.2.1,cB hb2 hS.2.2.2.2.1,cB hb2 hS.2.2.2.2.2.1,cB hb2 hS.2.2.2.2.2.2⟩
     have HI2:=hid (HID.below hb2)
     have HX2:=hid (HBXD.bel hb2)
     clear hb2 hS
     refine hK _ _ (.inr (.inr hS2)) ?_
     clear hK K
     refine wpHJ_pure (v:=?v3) 2 hFa rfl (by kernel_rfl) onlyP_put (Or.inl ⟨by rfl,?y3⟩) (.inr hS2) ?r3
     case y3=>(intro w' _;go_simp;try rfl)
     simp only [aP]
     refine wpHJ_pure (v:=undef) 3 hFa rfl (by kernel_rfl) onlyP_put (Or.inr ⟨by simp [Region.wanted,yielded,undef],rfl⟩) (.inr hS2) ?r4
     simp only [aP]
     refine wpHJ_pure (v:=undef) 4 hFa rfl (by kernel_rfl) onlyP_put (Or.inr ⟨by simp [Region.wanted,yielded,undef],rfl⟩) (.inr hS2) ?r5
     simp only [aP]
     refine wpHJ_pure (v:=undef) 5 hFa rfl (by kernel_rfl) onlyP_put (Or.inr ⟨by simp [Region.wanted,yielded,undef],rfl⟩) (.inr hS2) ?r6
     simp only [aP]
     refine oy 6 fun K hK=>?_
     rw [if_neg (by simp [Region.wanted,yielded,undef])]
     go_simp
     refine hK _ _ (.inr (.inr hS2)) ?_
     clear hK K
     refine wpHJ_pure (v:=undef) 7 hFa rfl (by kernel_rfl) onlyP_put (Or.inr ⟨by simp [Region.wanted,yielded,undef],rfl⟩) (.inr hS2) ?r7
     simp only [aP]
     refine wpHJ_pure (v:=undef) 8 hFa rfl (by kernel_rfl) onlyP_put (Or.inr ⟨by simp [Region.wanted,yielded,undef],rfl⟩) (.inr hS2) ?r8
     simp only [aP]
     refine wpHJ_pure (v:=undef) 9 hFa rfl (by kernel_rfl) onlyP_put (Or.inr ⟨by simp [Region.wanted,yielded,undef],rfl⟩) (.inr hS2) ?r9
     simp only [aP]
     refine wpHJ_pure (v:=?v0) 10 hFa rfl (by kernel_rfl) onlyP_put (Or.inl ⟨by rfl,?y0⟩) (.inr hS2) ?r0
     case y0=>(intro w' _;go_simp;try rfl)
     simp only [aP]
     refine oy 13 fun K hK=>?_
     go_simp
     (with_reducible refine (callsIn_wide.2 (need_false x.pos 4 w2)).mono ?_)
     rintro e w3 ⟨rfl,hb3⟩
     exact ⟨rfl,by rw [<- HST.out];exact IsPost.bad ((HI2.below hb3).bel HBS.out)⟩
    | true =>
     have HFB:=hid hfb
     cases main with
     | false =>
      have HFM:=hid (show (formB x && !(false && decide (x.kind=12)))=true from by rw [hfb];rfl)
      clear hfb
      have hFa:∀ f,Fence.wide.fn f:=fun _=>trivial
      refine (wpIn_wide (n:=9)).1 ?_
      refine wpIn_onlyP (fun c w'=>IsPost B w C vl rs S res (.panicked c) w') (fun _ _ _ h=>h) ?_
      refine wpIn_region_HJ (fun W=>W.cell? ⟨wr.heap.size,0,none⟩=some (.int .u8 (x.kind:Int))/\W.cell? ⟨wr.heap.size,1,none⟩=some (.int .u8 (x.op:Int))/\W.cell? ⟨wr.heap.size,2,none⟩=some (.string ⟨x.dst.toArray⟩)/\W.cell? ⟨wr.heap.size,3,none⟩=some (.string ⟨x.nm.toArray⟩)/\W.cell? ⟨wr.heap.size,4,none⟩=some (.slice pa x.args.length ca)/\W.cell? ⟨wr.heap.size,5,none⟩=some (.int .i64 x.pos.1)/\W.cell? ⟨wr.heap.size,6,none⟩=some (.int .i64 x.pos.2)) 13 (by kernel_rfl) ?_
      simp only [zP,Nat.reduceAdd]
      refine wpHJ_pure (v:=?vb) 11 hFa rfl (by kernel_rfl) onlyP_put (Or.inl ⟨by rfl,?yb⟩) (.inr hS) ?rb
      case yb=>(intro w' _;go_simp;try rfl)
      simp only [aP]
      refine wpHJ_take (v:=?vc) 12 hFa rfl (by kernel_rfl) onlyP_put (Or.inl ⟨by rfl,?yc⟩) hS ?rc
      case yc=>(rintro w' ⟨s0,s1,s2,s3,s4,s5,s6⟩;go_simp;try rfl)
      simp only [aP]
      refine oy 0 fun K hK=>?_
      go_simp
      refine hK _ _ (.inr (.inr hS)) ?_
      clear hK K
      refine oy 1 fun K hK=>?_
      go_simp
      (with_reducible refine (callsIn_wide.2 (formed_any x pa ca B wo.drew HID.out.pr HSA.out HKO.out.1 HKO.out.2)).mono ?_)
      rintro e w2 ⟨rfl,hb2⟩
      rw [HFB.out]
      have hS2:(fun W=>W.cell? ⟨wr.heap.size,0,none⟩=some (.int .u8 (x.kind:Int))/\W.cell? ⟨wr.heap.size,1,none⟩=some (.int .u8 (x.op:Int))/\W.cell? ⟨wr.heap.size,2,none⟩=some (.string ⟨x.dst.toArray⟩)/\W.cell? ⟨wr.heap.size,3,none⟩=some (.string ⟨x.nm.toArray⟩)/\W.cell? ⟨wr.heap.size,4,none⟩=some (.slice pa x.args.length ca)/\W.cell? ⟨wr.heap.size,5,none⟩=some (.int .i64 x.pos.1)/\W.cell? ⟨wr.heap.size,6,none⟩=some (.int .i64 x.pos.2)) w2:=⟨cB hb2 hS.1,cB hb2 hS.2.1,cB hb2 hS.2.2.1,cB hb2 hS.2.2.2.1,cB hb2 hS.2.2.2.2.1,cB hb2 hS.2.2.2.2.2.1,cB hb2 hS.2.2.2.2.2.2⟩
      have HI2:=hid (HID.below hb2)
      have HX2:=hid (HBXD.bel hb2)
      clear hb2 hS
      refine hK _ _ (.inr (.inr hS2)) ?_
      clear hK K
      refine wpHJ_pure (v:=?vd) 2 hFa rfl (by kernel_rfl) onlyP_put (Or.inl ⟨by rfl,?yd⟩) (.inr hS2) ?rd
      case yd=>(intro w' _;go_simp;try rfl)
      simp only [aP]
      refine wpHJ_pure (v:=?ve) 3 hFa rfl (by kernel_rfl) onlyP_put (Or.inl ⟨by simp [Region.wanted,yielded,undef],?ye⟩) (.inr hS2) ?re
      case ye=>(intro w' _;go_simp;try rfl)
      simp only [aP]
      refine wpHJ_pure (v:=?vf) 4 hFa rfl (by kernel_rfl) onlyP_put (Or.inl ⟨by simp [Region.wanted,yielded,undef],?yf⟩) (.inr hS2) ?rf
      case yf=>(intro w' _;go_simp;try rfl)
      simp only [aP]
      refine wpHJ_pure (v:=undef) 5 hFa rfl (by kernel_rfl) onlyP_put (Or.inr ⟨by simp [Region.wanted,yielded,undef],rfl⟩) (.inr hS2) ?rg
      simp only [aP]
      refine oy 6 fun K hK=>?_
      rw [if_neg (by simp [Region.wanted,yielded,undef])]
      go_simp
      refine hK _ _ (.inr (.inr hS2)) ?_
      clear hK K
      refine wpHJ_pure (v:=undef) 7 hFa rfl (by kernel_rfl) onlyP_put (Or.inr ⟨by simp [Region.wanted,yielded,undef],rfl⟩) (.inr hS2) ?rh
      simp only [aP]
      refine wpHJ_pure (v:=?vi) 8 hFa rfl (by kernel_rfl) onlyP_put (Or.inl ⟨by simp [Region.wanted,yielded,undef],?yi⟩) (.inr hS2) ?ri
      case yi=>(intro w' _;go_simp;try rfl)
      simp only [aP]
      refine wpHJ_pure (v:=?vj) 9 hFa rfl (by kernel_rfl) onlyP_put (Or.inl ⟨by simp [Region.wanted,yielded,undef],?yj⟩) (.inr hS2) ?rj
      case yj=>(intro w' _;go_simp;try rfl)
      simp only [aP]
      refine wpHJ_pure (v:=?va) 10 hFa rfl (by kernel_rfl) onlyP_put (Or.inl ⟨by rfl,?ya⟩) (.inr hS2) ?ra
      case ya=>(intro w' _;go_simp;try rfl)
      simp only [aP]
      refine oy 13 fun K hK=>?_
      go_simp
      (with_reducible refine (callsIn_wide.2 (need_true x.pos 4 w2)).mono ?_)
      rintro e w3 ⟨rfl,hb3⟩
      have HI3:=hid (HI2.below hb3)
      have HX3:=hid (HX2.bel hb3)
      clear hb3 hS2
      refine hK _ _ (.inl rfl) (dN ?_)
      clear hK K
      simp only [onlyP,Exit.then]
      clear hFa
      go_wp2_with fail
      go_meet
      case rel=>exact ⟨HFM.out,HI3.out,HX3.out⟩
     | true =>
      by_cases h12:x.kind=12
      ·have t12:((x.kind:Int) == 12)=true:=by rw [h12];rfl
       have HST:=hid (show (.error (x.pos,4):Except Flt (List Bs × List Bs))=res from by rw [<- HSN.out,stepM_form (by rw [hfb,decide_eq_true h12];rfl)];rfl)
       clear hfb h12
       have hFa:∀ f,Fence.wide.fn f:=fun _=>trivial
       refine (wpIn_wide (n:=9)).1 ?_
       refine wpIn_onlyP (fun c w'=>IsPost B w C vl rs S res (.panicked c) w') (fun _ _ _ h=>h) ?_
       refine wpIn_region_HJ (fun W=>W.cell? ⟨wr.heap.size,0,none⟩=some (.int .u8 (x.kind:Int))/\W.cell? ⟨wr.heap.size,1,none⟩=some (.int .u8 (x.op:Int))/\W.cell? ⟨wr.heap.size,2,none⟩=some (.string ⟨x.dst.toArray⟩)/\W.cell? ⟨wr.heap.size,3,none⟩=some (.string ⟨x.nm.toArray⟩)/\W.cell? ⟨wr.heap.size,4,none⟩=some (.slice pa x.args.length ca)/\W.cell? ⟨wr.heap.size,5,none⟩=some (.int .i64 x.pos.1)/\W.cell? ⟨wr.heap.size,6,none⟩=some (.int .i64 x.pos.2)) 13 (by kernel_rfl) ?_
       simp only [zP,Nat.reduceAdd]
       refine wpHJ_pure (v:=?vl) 11 hFa rfl (by kernel_rfl) onlyP_put (Or.inl ⟨by rfl,?yl⟩) (.inr hS) ?rl
       case yl=>(intro w' _;go_simp;try rfl)
       simp only [aP]
       refine wpHJ_take (v:=?vm) 12 hFa rfl (by kernel_rfl) onlyP_put (Or.inl ⟨by rfl,?ym⟩) hS ?rm
       case ym=>(rintro w' ⟨s0,s1,s2,s3,s4,s5,s6⟩;go_simp;try rfl)
       simp only [aP]
       refine oy 0 fun K hK=>?_
       go_simp
       refine hK _ _ (.inr (.inr hS)) ?_
       clear hK K
       refine oy 1 fun K hK=>?_
       go_simp
       (with_reducible refine (callsIn_wide.2 (formed_any x pa ca B wo.drew HID.out.pr HSA.out HKO.out.1 HKO.out.2)).mono ?_)
       rintro e w2 ⟨rfl,hb2⟩
       rw [HFB.out]
       have hS2:(fun W=>W.cell? ⟨wr.heap.size,0,none⟩=some (.int .u8 (x.kind:Int))/\W.cell? ⟨wr.heap.size,1,none⟩=some (.int .u8 (x.op:Int))/\W.cell? ⟨wr.heap.size,2,none⟩=some (.string ⟨x.dst.toArray⟩)/\W.cell? ⟨wr.heap.size,3,none⟩=some (.string ⟨x.nm.toArray⟩)/\W.cell? ⟨wr.heap.size,4,none⟩=some (.slice pa x.args.length ca)/\W.cell? ⟨wr.heap.size,5,none⟩=some (.int .i64 x.pos.1)/\W.cell? ⟨wr.heap.size,6,none⟩=some (.int .i64 x.pos.2)) w2:=⟨cB hb2 hS.1,cB hb2 hS.2.1,cB hb2 hS.2.2.1,cB hb2 hS.2.2.2.1,cB hb2 hS.2.2.2.2.1,cB hb2 hS.2.2.2.2.2.1,cB hb2 hS.2.2.2.2.2.2⟩
       have HI2:=hid (HID.below hb2)
       have HX2:=hid (HBXD.bel hb2)
       clear hb2 hS
       refine hK _ _ (.inr (.inr hS2)) ?_
       clear hK K
       refine wpHJ_pure (v:=?vn) 2 hFa rfl (by kernel_rfl) onlyP_put (Or.inl ⟨by rfl,?yn⟩) (.inr hS2) ?rn
       case yn=>(intro w' _;go_simp;try rfl)
       simp only [aP]
       refine wpHJ_pure (v:=?vo) 3 hFa rfl (by kernel_rfl) onlyP_put (Or.inl ⟨by simp [Region.wanted,yielded,undef],?yo⟩) (.inr hS2) ?ro
       case yo=>(intro w' _;go_simp;try rfl)
       simp only [aP]
       refine wpHJ_pure (v:=?vp) 4 hFa rfl (by kernel_rfl) onlyP_put (Or.inl ⟨by simp [Region.wanted,yielded,undef],?yp⟩) (.inr hS2) ?rp
       case yp=>(intro w' _;go_simp;try rfl)
       simp only [aP]
       refine wpHJ_pure (v:=?vq) 5 hFa rfl (by kernel_rfl) onlyP_put (Or.inl ⟨by simp [Region.wanted,yielded,undef],?yq⟩) (.inr hS2) ?rq
       case yq=>(intro w' _;go_simp;try rfl)
       simp only [aP]
       refine oy 6 fun K hK=>?_
       rw [if_pos (by simp [Region.wanted,yielded,undef])]
       go_simp
       refine hK _ _ (.inr (.inr hS2)) ?_
       clear hK K
       refine wpHJ_pure (v:=?vr) 7 hFa rfl (by kernel_rfl) onlyP_put (Or.inl ⟨by simp [Region.wanted,yielded,undef],?yr⟩) (.inr hS2) ?rr
       case yr=>(intro w' _;go_simp;try rfl)
       simp only [aP]
       refine wpHJ_pure (v:=?vs) 8 hFa rfl (by kernel_rfl) onlyP_put (Or.inl ⟨by simp [Region.wanted,yielded,undef],?ys⟩) (.inr hS2) ?rs
       case ys=>(intro w' _;go_simp;try rfl)
       simp only [aP]
       refine wpHJ_pure (v:=?vt) 9 hFa rfl (by kernel_rfl) onlyP_put (Or.inl ⟨by simp [Region.wanted,yielded,undef],?yt⟩) (.inr hS2) ?rt
       case yt=>(intro w' _;go_simp;try rfl)
       simp only [aP]
       refine wpHJ_pure (v:=?vk) 10 hFa rfl (by kernel_rfl) onlyP_put (Or.inl ⟨by rfl,?yk⟩) (.inr hS2) ?rk
       case yk=>(intro w' _;go_simp;try rfl)
       simp only [aP]
       refine oy 13 fun K hK=>?_
       go_simp
       (with_reducible refine (callsIn_wide.2 (need_false x.pos 4 w2)).mono ?_)
       rintro e w3 ⟨rfl,hb3⟩
       exact ⟨rfl,by rw [<- HST.out];exact IsPost.bad ((HI2.below hb3).bel HBS.out)⟩
      ·have t12:((x.kind:Int) == 12)=false:=by simp;omega
       have HFM:=hid (show (formB x && !(true && decide (x.kind=12)))=true from by rw [hfb,decide_eq_false h12];rfl)
       clear hfb h12
       have hFa:∀ f,Fence.wide.fn f:=fun _=>trivial
       refine (wpIn_wide (n:=9)).1 ?_
       refine wpIn_onlyP (fun c w'=>IsPost B w C vl rs S res (.panicked c) w') (fun _ _ _ h=>h) ?_
       refine wpIn_region_HJ (fun W=>W.cell? ⟨wr.heap.size,0,none⟩=some (.int .u8 (x.kind:Int))/\W.cell? ⟨wr.heap.size,1,none⟩=some (.int .u8 (x.op:Int))/\W.cell? ⟨wr.heap.size,2,none⟩=some (.string ⟨x.dst.toArray⟩)/\W.cell? ⟨wr.heap.size,3,none⟩=some (.string ⟨x.nm.toArray⟩)/\W.cell? ⟨wr.heap.size,4,none⟩=some (.slice pa x.args.length ca)/\W.cell? ⟨wr.heap.size,5,none⟩=some (.int .i64 x.pos.1)/\W.cell? ⟨wr.heap.size,6,none⟩=some (.int .i64 x.pos.2)) 13 (by kernel_rfl) ?_
       simp only [zP,Nat.reduceAdd]
       refine wpHJ_pure (v:=?vv) 11 hFa rfl (by kernel_rfl) onlyP_put (Or.inl ⟨by rfl,?yv⟩) (.inr hS) ?rv
       case yv=>(intro w' _;go_simp;try rfl)
       simp only [aP]
       refine wpHJ_take (v:=?vw) 12 hFa rfl (by kernel_rfl) onlyP_put (Or.inl ⟨by rfl,?yw⟩) hS ?rw
       case yw=>(rintro w' ⟨s0,s1,s2,s3,s4,s5,s6⟩;go_simp;try rfl)
       simp only [aP]
       refine oy 0 fun K hK=>?_
       go_simp
       refine hK _ _ (.inr (.inr hS)) ?_
       clear hK K
       refine oy 1 fun K hK=>?_
       go_simp
       (with_reducible refine (callsIn_wide.2 (formed_any x pa ca B wo.drew HID.out.pr HSA.out HKO.out.1 HKO.out.2)).mono ?_)
       rintro e w2 ⟨rfl,hb2⟩
       rw [HFB.out]
       have hS2:(fun W=>W.cell? ⟨wr.heap.size,0,none⟩=some (.int .u8 (x.kind:Int))/\W.cell? ⟨wr.heap.size,1,none⟩=some (.int .u8 (x.op:Int))/\W.cell? ⟨wr.heap.size,2,none⟩=some (.string ⟨x.dst.toArray⟩)/\W.cell? ⟨wr.heap.size,3,none⟩=some (.string ⟨x.nm.toArray⟩)/\W.cell? ⟨wr.heap.size,4,none⟩=some (.slice pa x.args.length ca)/\W.cell? ⟨wr.heap.size,5,none⟩=some (.int .i64 x.pos.1)/\W.cell? ⟨wr.heap.size,6,none⟩=some (.int .i64 x.pos.2)) w2:=⟨cB hb2 hS.1,cB hb2 hS.2.1,cB hb2 hS.2.2.1,cB hb2 hS.2.2.2.1,cB hb2 hS.2.2.2.2.1,cB hb2 hS.2.2.2.2.2.1,cB hb2 hS.2.2.2.2.2.2⟩
       have HI2:=hid (HID.below hb2)
       have HX2:=hid (HBXD.bel hb2)
       clear hb2 hS
       refine hK _ _ (.inr (.inr hS2)) ?_
       clear hK K
       refine wpHJ_pure (v:=?vx) 2 hFa rfl (by kernel_rfl) onlyP_put (Or.inl ⟨by rfl,?yx⟩) (.inr hS2) ?rx
       case yx=>(intro w' _;go_simp;try rfl)
       simp only [aP]
       refine wpHJ_pure (v:=?vy) 3 hFa rfl (by kernel_rfl) onlyP_put (Or.inl ⟨by simp [Region.wanted,yielded,undef],?yy⟩) (.inr hS2) ?ry
       case yy=>(intro w' _;go_simp;try rfl)
       simp only [aP]
       refine wpHJ_pure (v:=?vz) 4 hFa rfl (by kernel_rfl) onlyP_put (Or.inl ⟨by simp [Region.wanted,yielded,undef],?yz⟩) (.inr hS2) ?rz
       case yz=>(intro w' _;go_simp;try rfl)
       simp only [aP]
       refine wpHJ_pure (v:=?v10) 5 hFa rfl (by kernel_rfl) onlyP_put (Or.inl ⟨by simp [Region.wanted,yielded,undef],?y10⟩) (.inr hS2) ?r10
       case y10=>(intro w' _;go_simp;try rfl)
       simp only [aP]
       refine oy 6 fun K hK=>?_
       rw [if_pos (by simp [Region.wanted,yielded,undef])]
       go_simp
       refine hK _ _ (.inr (.inr hS2)) ?_
       clear hK K
       refine wpHJ_pure (v:=?v11) 7 hFa rfl (by kernel_rfl) onlyP_put (Or.inl ⟨by simp [Region.wanted,yielded,undef],?y11⟩) (.inr hS2) ?r11
       case y11=>(intro w' _;go_simp;try rfl)
       simp only [aP]
       refine wpHJ_pure (v:=?v12) 8 hFa rfl (by kernel_rfl) onlyP_put (Or.inl ⟨by simp [Region.wanted,yielded,undef],?y12⟩) (.inr hS2) ?r12
       case y12=>(intro w' _;go_simp;try rfl)
       simp only [aP]
       refine wpHJ_pure (v:=?v13) 9 hFa rfl (by kernel_rfl) onlyP_put (Or.inl ⟨by simp [Region.wanted,yielded,undef],?y13⟩) (.inr hS2) ?r13
       case y13=>(intro w' _;go_simp;try rfl)
       simp only [aP]
       refine wpHJ_pure (v:=?vu) 10 hFa rfl (by kernel_rfl) onlyP_put (Or.inl ⟨by rfl,?yu⟩) (.inr hS2) ?ru
       case yu=>(intro w' _;go_simp;try rfl)
       simp only [aP]
       refine oy 13 fun K hK=>?_
       go_simp
       (with_reducible refine (callsIn_wide.2 (need_true x.pos 4 w2)).mono ?_)
       rintro e w3 ⟨rfl,hb3⟩
       have HI3:=hid (HI2.below hb3)
       have HX3:=hid (HX2.bel hb3)
       clear hb3 hS2
       refine hK _ _ (.inl rfl) (dN ?_)
       clear hK K
       simp only [onlyP,Exit.then]
       clear hFa
       go_wp2_with fail
       go_meet
       case rel=>exact ⟨HFM.out,HI3.out,HX3.out⟩
   case rest =>
   obtain ⟨hfm,hic,hxc⟩:=hcut
   have HSN2:=hid (HSN.out)
   rw [stepM_rest hfm] at HSN2
   clear hfm HIO HBX
   have HIC:=hid hic;have HX:=hid hxc
   have n0:wc.cell? ⟨wr.heap.size,0,none⟩=some (.int .u8 (x.kind:Int)):=hxc.at 0 rfl
   clear hic hxc
   rcases (show x.kind=5\/x.kind=6\/x.kind=2\/x.kind=3\/x.kind=10\/x.kind=7\/(x.kind ≠ 5/\x.kind ≠ 6/\x.kind ≠ 2/\x.kind ≠ 3/\x.kind ≠ 10/\x.kind ≠ 7) by omega) with hkd | hkd | hkd | hkd | hkd | hkd | hkd
   ·have t5:((x.kind:Int) == 5)=true:=by first | (rw [hkd];rfl) | (simp;omega)
    rw [if_pos (by omega)] at HSN2
    clear hkd
    go_upto_region 10 with fail
    cases hcs:S.chans.contains x.nm with
    | true =>
     have HCS:=hid hcs
     have HST:=hid (show bodyM S.chans S.arrays main (l.drop (k+1)) lbl st=res from by rw [<- HSN2.out,hcs];rfl)
     clear hcs
     have hS:(fun W=>W.cell? ⟨C.cb,5,none⟩=some (.map (some C.mc))/\W.cell? ⟨wr.heap.size,3,none⟩=some (.string ⟨x.nm.toArray⟩)/\W.cell? ⟨wr.heap.size,5,none⟩=some (.int .i64 x.pos.1)/\W.cell? ⟨wr.heap.size,6,none⟩=some (.int .i64 x.pos.2)) wc.drew:=⟨HIC.c5,HX.at 3 rfl,HX.at 5 rfl,HX.at 6 rfl⟩
     have HID:=hid HIC.drew
     have HBXD:=hid (show BxL 41 wr.heap.size (inL x (.slice pa x.args.length ca)) wc.drew from HX.out)
     have hFa:∀ f,Fence.wide.fn f:=fun _=>trivial
     refine (wpIn_wide (n:=9)).1 ?_
     refine wpIn_onlyP (fun c w'=>IsPost B w C vl rs S res (.panicked c) w') (fun _ _ _ h=>h) ?_
     refine wpIn_region_HJ (fun W=>W.cell? ⟨C.cb,5,none⟩=some (.map (some C.mc))/\W.cell? ⟨wr.heap.size,3,none⟩=some (.string ⟨x.nm.toArray⟩)/\W.cell? ⟨wr.heap.size,5,none⟩=some (.int .i64 x.pos.1)/\W.cell? ⟨wr.heap.size,6,none⟩=some (.int .i64 x.pos.2)) 10 (by kernel_rfl) ?_
     simp only [zP,Nat.reduceAdd]
     iterate 6 (refine nxW (v:=?_) 10 hS ?_ ?_;rotate_left;(focus intro w' hS';obtain ⟨s0,s1,s2,s3⟩:=hS';go_simp;try rfl);simp only [aP])
     iterate 2 (refine nxW (v:=?_) 11 hS ?_ ?_;rotate_left;(focus intro w' hS';obtain ⟨s0,s1,s2,s3⟩:=hS';go_simp;try rfl);simp only [aP])
     refine oy 6 fun K hK=>?_
     have hlk:(Instr.lookup 119 (.map (some C.mc)) (.string ⟨x.nm.toArray⟩) false).run Tryz.prog wc.drew=.ok (.bool true) wc.drew:=by
      have h:=run_lookS (P:=Tryz.prog) (w:=wc.drew) (t:=119) (kt:=9) (e:=4) (HID.ck.ch:MapS wc.drew C.mc (nmE _)) Tryz.underlying119 Tryz.underlying9 x.nm (.bool false) (by kernel_rfl) false
      rw [if_neg (by decide),nmE_get,HCS.out] at h
      exact h
     go_simp
     refine hK _ _ (.inr (.inr hS)) ?_
     clear hK K
     refine oy 9 fun K hK=>?_
     go_simp
     (with_reducible refine (callsIn_wide.2 (need_true x.pos 6 wc.drew)).mono ?_)
     rintro e w3 ⟨rfl,hb3⟩
     have HI3:=hid (HID.below hb3)
     have HX3:=hid (HBXD.bel hb3)
     have hS3:(fun W=>W.cell? ⟨C.cb,5,none⟩=some (.map (some C.mc))/\W.cell? ⟨wr.heap.size,3,none⟩=some (.string ⟨x.nm.toArray⟩)/\W.cell? ⟨wr.heap.size,5,none⟩=some (.int .i64 x.pos.1)/\W.cell? ⟨wr.heap.size,6,none⟩=some (.int .i64 x.pos.2)) w3:=⟨HI3.c5,HX3.at 3 rfl,HX3.at 5 rfl,HX3.at 6 rfl⟩
     clear hb3 hS
     refine hK _ _ (.inr (.inr hS3)) (dN ?_)
     clear hK K
     simp only [onlyP,Exit.then]
     clear hFa
     go_wp2_with fail
     go_roundw
     case rel=>exact ⟨k+1,_,_,HLT.out,by rw [wrap_next HLT.out HS.len],HST.out,HI3.out⟩
     case measure=>exact meas_next HLT.out HS.len
    | false =>
     have HCS:=hid hcs
     have HST:=hid (show (.error (x.pos,6):Except Flt (List Bs × List Bs))=res from by rw [<- HSN2.out,hcs];rfl)
     clear hcs
     have hS:(fun W=>W.cell? ⟨C.cb,5,none⟩=some (.map (some C.mc))/\W.cell? ⟨wr.heap.size,3,none⟩=some (.string ⟨x.nm.toArray⟩)/\W.cell? ⟨wr.heap.size,5,none⟩=some (.int .i64 x.pos.1)/\W.cell? ⟨wr.heap.size,6,none⟩=some (.int .i64 x.pos.2)) wc.drew:=⟨HIC.c5,HX.at 3 rfl,HX.at 5 rfl,HX.at 6 rfl⟩
     have HID:=hid HIC.drew
     have HBXD:=hid (show BxL 41 wr.heap.size (inL x (.slice pa x.args.length ca)) wc.drew from HX.out)
     have hFa:∀ f,Fence.wide.fn f:=fun _=>trivial
     refine (wpIn_wide (n:=9)).1 ?_
     refine wpIn_onlyP (fun c w'=>IsPost B w C vl rs S res (.panicked c) w') (fun _ _ _ h=>h) ?_
     refine wpIn_region_HJ (fun W=>W.cell? ⟨C.cb,5,none⟩=some (.map (some C.mc))/\W.cell? ⟨wr.heap.size,3,none⟩=some (.string ⟨x.nm.toArray⟩)/\W.cell? ⟨wr.heap.size,5,none⟩=some (.int .i64 x.pos.1)/\W.cell? ⟨wr.heap.size,6,none⟩=some (.int .i64 x.pos.2)) 10 (by kernel_rfl) ?_
     simp only [zP,Nat.reduceAdd]
     iterate 6 (refine nxW (v:=?_) 10 hS ?_ ?_;rotate_left;(focus intro w' hS';obtain ⟨s0,s1,s2,s3⟩:=hS';go_simp;try rfl);simp only [aP])
     iterate 2 (refine nxW (v:=?_) 11 hS ?_ ?_;rotate_left;(focus intro w' hS';obtain ⟨s0,s1,s2,s3⟩:=hS';go_simp;try rfl);simp only [aP])
     refine oy 6 fun K hK=>?_
     have hlk:(Instr.lookup 119 (.map (some C.mc)) (.string ⟨x.nm.toArray⟩) false).run Tryz.prog wc.drew=.ok (.bool false) wc.drew:=by
      have h:=run_lookS (P:=Tryz.prog) (w:=wc.drew) (t:=119) (kt:=9) (e:=4) (HID.ck.ch:MapS wc.drew C.mc (nmE _)) Tryz.underlying119 Tryz.underlying9 x.nm (.bool false) (by kernel_rfl) false
      rw [if_neg (by decide),nmE_get,HCS.out] at h
      exact h
     go_simp
     refine hK _ _ (.inr (.inr hS)) ?_
     clear hK K
     refine oy 9 fun K hK=>?_
     go_simp
     (with_reducible refine (callsIn_wide.2 (need_false x.pos 6 wc.drew)).mono ?_)
     rintro e w3 ⟨rfl,hb3⟩
     exact ⟨rfl,by rw [<- HST.out];exact IsPost.bad ((HID.below hb3).bel HBS.out)⟩
   ·have t5:((x.kind:Int) == 5)=false:=by first | (rw [hkd];rfl) | (simp;omega)
    have t6:((x.kind:Int) == 6)=true:=by first | (rw [hkd];rfl) | (simp;omega)
    rw [if_pos (by omega)] at HSN2
    clear hkd
    go_upto_region 10 with fail
    cases hcs:S.chans.contains x.nm with
    | true =>
     have HCS:=hid hcs
     have HST:=hid (show bodyM S.chans S.arrays main (l.drop (k+1)) lbl st=res from by rw [<- HSN2.out,hcs];rfl)
     clear hcs
     have hS:(fun W=>W.cell? ⟨C.cb,5,none⟩=some (.map (some C.mc))/\W.cell? ⟨wr.heap.size,3,none⟩=some (.string ⟨x.nm.toArray⟩)/\W.cell? ⟨wr.heap.size,5,none⟩=some (.int .i64 x.pos.1)/\W.cell? ⟨wr.heap.size,6,none⟩=some (.int .i64 x.pos.2)) wc.drew:=⟨HIC.c5,HX.at 3 rfl,HX.at 5 rfl,HX.at 6 rfl⟩
     have HID:=hid HIC.drew
     have HBXD:=hid (show BxL 41 wr.heap.size (inL x (.slice pa x.args.length ca)) wc.drew from HX.out)
     have hFa:∀ f,Fence.wide.fn f:=fun _=>trivial
     refine (wpIn_wide (n:=9)).1 ?_
     refine wpIn_onlyP (fun c w'=>IsPost B w C vl rs S res (.panicked c) w') (fun _ _ _ h=>h) ?_
     refine wpIn_region_HJ (fun W=>W.cell? ⟨C.cb,5,none⟩=some (.map (some C.mc))/\W.cell? ⟨wr.heap.size,3,none⟩=some (.string ⟨x.nm.toArray⟩)/\W.cell? ⟨wr.heap.size,5,none⟩=some (.int .i64 x.pos.1)/\W.cell? ⟨wr.heap.size,6,none⟩=some (.int .i64 x.pos.2)) 10 (by kernel_rfl) ?_
     simp only [zP,Nat.reduceAdd]
     iterate 6 (refine nxW (v:=?_) 10 hS ?_ ?_;rotate_left;(focus intro w' hS';obtain ⟨s0,s1,s2,s3⟩:=hS';go_simp;try rfl);simp only [aP])
     iterate 2 (refine nxW (v:=?_) 11 hS ?_ ?_;rotate_left;(focus intro w' hS';obtain ⟨s0,s1,s2,s3⟩:=hS';go_simp;try rfl);simp only [aP])
     refine oy 6 fun K hK=>?_
     have hlk:(Instr.lookup 119 (.map (some C.mc)) (.string ⟨x.nm.toArray⟩) false).run Tryz.prog wc.drew=.ok (.bool true) wc.drew:=by
      have h:=run_lookS (P:=Tryz.prog) (w:=wc.drew) (t:=119) (kt:=9) (e:=4) (HID.ck.ch:MapS wc.drew C.mc (nmE _)) Tryz.underlying119 Tryz.underlying9 x.nm (.bool false) (by kernel_rfl) false
      rw [if_neg (by decide),nmE_get,HCS.out] at h
      exact h
     go_simp
     refine hK _ _ (.inr (.inr hS)) ?_
     clear hK K
     refine oy 9 fun K hK=>?_
     go_simp
     (with_reducible refine (callsIn_wide.2 (need_true x.pos 6 wc.drew)).mono ?_)
     rintro e w3 ⟨rfl,hb3⟩
     have HI3:=hid (HID.below hb3)
     have HX3:=hid (HBXD.bel hb3)
     have hS3:(fun W=>W.cell? ⟨C.cb,5,none⟩=some (.map (some C.mc))/\W.cell? ⟨wr.heap.size,3,none⟩=some (.string ⟨x.nm.toArray⟩)/\W.cell? ⟨wr.heap.size,5,none⟩=some (.int .i64 x.pos.1)/\W.cell? ⟨wr.heap.size,6,none⟩=some (.int .i64 x.pos.2)) w3:=⟨HI3.c5,HX3.at 3 rfl,HX3.at 5 rfl,HX3.at 6 rfl⟩
     clear hb3 hS
     refine hK _ _ (.inr (.inr hS3)) (dN ?_)
     clear hK K
     simp only [onlyP,Exit.then]
     clear hFa
     go_wp2_with fail
     go_roundw
     case rel=>exact ⟨k+1,_,_,HLT.out,by rw [wrap_next HLT.out HS.len],HST.out,HI3.out⟩
     case measure=>exact meas_next HLT.out HS.len
    | false =>
     have HCS:=hid hcs
     have HST:=hid (show (.error (x.pos,6):Except Flt (List Bs × List Bs))=res from by rw [<- HSN2.out,hcs];rfl)
     clear hcs
     have hS:(fun W=>W.cell? ⟨C.cb,5,none⟩=some (.map (some C.mc))/\W.cell? ⟨wr.heap.size,3,none⟩=some (.string ⟨x.nm.toArray⟩)/\W.cell? ⟨wr.heap.size,5,none⟩=some (.int .i64 x.pos.1)/\W.cell? ⟨wr.heap.size,6,none⟩=some (.int .i64 x.pos.2)) wc.drew:=⟨HIC.c5,HX.at 3 rfl,HX.at 5 rfl,HX.at 6 rfl⟩
     have HID:=hid HIC.drew
     have HBXD:=hid (show BxL 41 wr.heap.size (inL x (.slice pa x.args.length ca)) wc.drew from HX.out)
     have hFa:∀ f,Fence.wide.fn f:=fun _=>trivial
     refine (wpIn_wide (n:=9)).1 ?_
     refine wpIn_onlyP (fun c w'=>IsPost B w C vl rs S res (.panicked c) w') (fun _ _ _ h=>h) ?_
     refine wpIn_region_HJ (fun W=>W.cell? ⟨C.cb,5,none⟩=some (.map (some C.mc))/\W.cell? ⟨wr.heap.size,3,none⟩=some (.string ⟨x.nm.toArray⟩)/\W.cell? ⟨wr.heap.size,5,none⟩=some (.int .i64 x.pos.1)/\W.cell? ⟨wr.heap.size,6,none⟩=some (.int .i64 x.pos.2)) 10 (by kernel_rfl) ?_
     simp only [zP,Nat.reduceAdd]
     iterate 6 (refine nxW (v:=?_) 10 hS ?_ ?_;rotate_left;(focus intro w' hS';obtain ⟨s0,s1,s2,s3⟩:=hS';go_simp;try rfl);simp only [aP])
     iterate 2 (refine nxW (v:=?_) 11 hS ?_ ?_;rotate_left;(focus intro w' hS';obtain ⟨s0,s1,s2,s3⟩:=hS';go_simp;try rfl);simp only [aP])
     refine oy 6 fun K hK=>?_
     have hlk:(Instr.lookup 119 (.map (some C.mc)) (.string ⟨x.nm.toArray⟩) false).run Tryz.prog wc.drew=.ok (.bool false) wc.drew:=by
      have h:=run_lookS (P:=Tryz.prog) (w:=wc.drew) (t:=119) (kt:=9) (e:=4) (HID.ck.ch:MapS wc.drew C.mc (nmE _)) Tryz.underlying119 Tryz.underlying9 x.nm (.bool false) (by kernel_rfl) false
      rw [if_neg (by decide),nmE_get,HCS.out] at h
      exact h
     go_simp
     refine hK _ _ (.inr (.inr hS)) ?_
     clear hK K
     refine oy 9 fun K hK=>?_
     go_simp
     (with_reducible refine (callsIn_wide.2 (need_false x.pos 6 wc.drew)).mono ?_)
     rintro e w3 ⟨rfl,hb3⟩
     exact ⟨rfl,by rw [<- HST.out];exact IsPost.bad ((HID.below hb3).bel HBS.out)⟩
   ·have t5:((x.kind:Int) == 5)=false:=by first | (rw [hkd];rfl) | (simp;omega)
    have t6:((x.kind:Int) == 6)=false:=by first | (rw [hkd];rfl) | (simp;omega)
    have t2:((x.kind:Int) == 2)=true:=by first | (rw [hkd];rfl) | (simp;omega)
    rw [if_neg (by omega),if_pos (by omega)] at HSN2
    clear hkd
    go_upto_region 13 with fail
    cases hcs:S.arrays.contains x.nm with
    | true =>
     have HCS:=hid hcs
     have HST:=hid (show bodyM S.chans S.arrays main (l.drop (k+1)) lbl st=res from by rw [<- HSN2.out,hcs];rfl)
     clear hcs
     have hS:(fun W=>W.cell? ⟨C.cb,6,none⟩=some (.map (some C.ma))/\W.cell? ⟨wr.heap.size,3,none⟩=some (.string ⟨x.nm.toArray⟩)/\W.cell? ⟨wr.heap.size,5,none⟩=some (.int .i64 x.pos.1)/\W.cell? ⟨wr.heap.size,6,none⟩=some (.int .i64 x.pos.2)) wc.drew:=⟨HIC.c6,HX.at 3 rfl,HX.at 5 rfl,HX.at 6 rfl⟩
     have HID:=hid HIC.drew
     have HBXD:=hid (show BxL 41 wr.heap.size (inL x (.slice pa x.args.length ca)) wc.drew from HX.out)
     have hFa:∀ f,Fence.wide.fn f:=fun _=>trivial
     refine (wpIn_wide (n:=9)).1 ?_
     refine wpIn_onlyP (fun c w'=>IsPost B w C vl rs S res (.panicked c) w') (fun _ _ _ h=>h) ?_
     refine wpIn_region_HJ (fun W=>W.cell? ⟨C.cb,6,none⟩=some (.map (some C.ma))/\W.cell? ⟨wr.heap.size,3,none⟩=some (.string ⟨x.nm.toArray⟩)/\W.cell? ⟨wr.heap.size,5,none⟩=some (.int .i64 x.pos.1)/\W.cell? ⟨wr.heap.size,6,none⟩=some (.int .i64 x.pos.2)) 10 (by kernel_rfl) ?_
     simp only [zP,Nat.reduceAdd]
     iterate 6 (refine nxW (v:=?_) 10 hS ?_ ?_;rotate_left;(focus intro w' hS';obtain ⟨s0,s1,s2,s3⟩:=hS';go_simp;try rfl);simp only [aP])
     iterate 2 (refine nxW (v:=?_) 11 hS ?_ ?_;rotate_left;(focus intro w' hS';obtain ⟨s0,s1,s2,s3⟩:=hS';go_simp;try rfl);simp only [aP])
     refine oy 6 fun K hK=>?_
     have hlk:(Instr.lookup 119 (.map (some C.ma)) (.string ⟨x.nm.toArray⟩) false).run Tryz.prog wc.drew=.ok (.bool true) wc.drew:=by
      have h:=run_lookS (P:=Tryz.prog) (w:=wc.drew) (t:=119) (kt:=9) (e:=4) (HID.ck.ar:MapS wc.drew C.ma (nmE _)) Tryz.underlying119 Tryz.underlying9 x.nm (.bool false) (by kernel_rfl) false
      rw [if_neg (by decide),nmE_get,HCS.out] at h
      exact h
     go_simp
     refine hK _ _ (.inr (.inr hS)) ?_
     clear hK K
     refine oy 9 fun K hK=>?_
     go_simp
     (with_reducible refine (callsIn_wide.2 (need_true x.pos 6 wc.drew)).mono ?_)
     rintro e w3 ⟨rfl,hb3⟩
     have HI3:=hid (HID.below hb3)
     have HX3:=hid (HBXD.bel hb3)
     have hS3:(fun W=>W.cell? ⟨C.cb,6,none⟩=some (.map (some C.ma))/\W.cell? ⟨wr.heap.size,3,none⟩=some (.string ⟨x.nm.toArray⟩)/\W.cell? ⟨wr.heap.size,5,none⟩=some (.int .i64 x.pos.1)/\W.cell? ⟨wr.heap.size,6,none⟩=some (.int .i64 x.pos.2)) w3:=⟨HI3.c6,HX3.at 3 rfl,HX3.at 5 rfl,HX3.at 6 rfl⟩
     clear hb3 hS
     refine hK _ _ (.inr (.inr hS3)) (dN ?_)
     clear hK K
     simp only [onlyP,Exit.then]
     clear hFa
     go_wp2_with fail
     go_roundw
     case rel=>exact ⟨k+1,_,_,HLT.out,by rw [wrap_next HLT.out HS.len],HST.out,HI3.out⟩
     case measure=>exact meas_next HLT.out HS.len
    | false =>
     have HCS:=hid hcs
     have HST:=hid (show (.error (x.pos,6):Except Flt (List Bs × List Bs))=res from by rw [<- HSN2.out,hcs];rfl)
     clear hcs
     have hS:(fun W=>W.cell? ⟨C.cb,6,none⟩=some (.map (some C.ma))/\W.cell? ⟨wr.heap.size,3,none⟩=some (.string ⟨x.nm.toArray⟩)/\W.cell? ⟨wr.heap.size,5,none⟩=some (.int .i64 x.pos.1)/\W.cell? ⟨wr.heap.size,6,none⟩=some (.int .i64 x.pos.2)) wc.drew:=⟨HIC.c6,HX.at 3 rfl,HX.at 5 rfl,HX.at 6 rfl⟩
     have HID:=hid HIC.drew
     have HBXD:=hid (show BxL 41 wr.heap.size (inL x (.slice pa x.args.length ca)) wc.drew from HX.out)
     have hFa:∀ f,Fence.wide.fn f:=fun _=>trivial
     refine (wpIn_wide (n:=9)).1 ?_
     refine wpIn_onlyP (fun c w'=>IsPost B w C vl rs S res (.panicked c) w') (fun _ _ _ h=>h) ?_
     refine wpIn_region_HJ (fun W=>W.cell? ⟨C.cb,6,none⟩=some (.map (some C.ma))/\W.cell? ⟨wr.heap.size,3,none⟩=some (.string ⟨x.nm.toArray⟩)/\W.cell? ⟨wr.heap.size,5,none⟩=some (.int .i64 x.pos.1)/\W.cell? ⟨wr.heap.size,6,none⟩=some (.int .i64 x.pos.2)) 10 (by kernel_rfl) ?_
     simp only [zP,Nat.reduceAdd]
     iterate 6 (refine nxW (v:=?_) 10 hS ?_ ?_;rotate_left;(focus intro w' hS';obtain ⟨s0,s1,s2,s3⟩:=hS';go_simp;try rfl);simp only [aP])
     iterate 2 (refine nxW (v:=?_) 11 hS ?_ ?_;rotate_left;(focus intro w' hS';obtain ⟨s0,s1,s2,s3⟩:=hS';go_simp;try rfl);simp only [aP])
     refine oy 6 fun K hK=>?_
     have hlk:(Instr.lookup 119 (.map (some C.ma)) (.string ⟨x.nm.toArray⟩) false).run Tryz.prog wc.drew=.ok (.bool false) wc.drew:=by
      have h:=run_lookS (P:=Tryz.prog) (w:=wc.drew) (t:=119) (kt:=9) (e:=4) (HID.ck.ar:MapS wc.drew C.ma (nmE _)) Tryz.underlying119 Tryz.underlying9 x.nm (.bool false) (by kernel_rfl) false
      rw [if_neg (by decide),nmE_get,HCS.out] at h
      exact h
     go_simp
     refine hK _ _ (.inr (.inr hS)) ?_
     clear hK K
     refine oy 9 fun K hK=>?_
     go_simp
     (with_reducible refine (callsIn_wide.2 (need_false x.pos 6 wc.drew)).mono ?_)
     rintro e w3 ⟨rfl,hb3⟩
     exact ⟨rfl,by rw [<- HST.out];exact IsPost.bad ((HID.below hb3).bel HBS.out)⟩
   ·have t5:((x.kind:Int) == 5)=false:=by first | (rw [hkd];rfl) | (simp;omega)
    have t6:((x.kind:Int) == 6)=false:=by first | (rw [hkd];rfl) | (simp;omega)
    have t2:((x.kind:Int) == 2)=false:=by first | (rw [hkd];rfl) | (simp;omega)
    have t3:((x.kind:Int) == 3)=true:=by first | (rw [hkd];rfl) | (simp;omega)
    rw [if_neg (by omega),if_pos (by omega)] at HSN2
    clear hkd
    go_upto_region 13 with fail
    cases hcs:S.arrays.contains x.nm with
    | true =>
     have HCS:=hid hcs
     have HST:=hid (show bodyM S.chans S.arrays main (l.drop (k+1)) lbl st=res from by rw [<- HSN2.out,hcs];rfl)
     clear hcs
     have hS:(fun W=>W.cell? ⟨C.cb,6,none⟩=some (.map (some C.ma))/\W.cell? ⟨wr.heap.size,3,none⟩=some (.string ⟨x.nm.toArray⟩)/\W.cell? ⟨wr.heap.size,5,none⟩=some (.int .i64 x.pos.1)/\W.cell? ⟨wr.heap.size,6,none⟩=some (.int .i64 x.pos.2)) wc.drew:=⟨HIC.c6,HX.at 3 rfl,HX.at 5 rfl,HX.at 6 rfl⟩
     have HID:=hid HIC.drew
     have HBXD:=hid (show BxL 41 wr.heap.size (inL x (.slice pa x.args.length ca)) wc.drew from HX.out)
     have hFa:∀ f,Fence.wide.fn f:=fun _=>trivial
     refine (wpIn_wide (n:=9)).1 ?_
     refine wpIn_onlyP (fun c w'=>IsPost B w C vl rs S res (.panicked c) w') (fun _ _ _ h=>h) ?_
     refine wpIn_region_HJ (fun W=>W.cell? ⟨C.cb,6,none⟩=some (.map (some C.ma))/\W.cell? ⟨wr.heap.size,3,none⟩=some (.string ⟨x.nm.toArray⟩)/\W.cell? ⟨wr.heap.size,5,none⟩=some (.int .i64 x.pos.1)/\W.cell? ⟨wr.heap.size,6,none⟩=some (.int .i64 x.pos.2)) 10 (by kernel_rfl) ?_
     simp only [zP,Nat.reduceAdd]
     iterate 6 (refine nxW (v:=?_) 10 hS ?_ ?_;rotate_left;(focus intro w' hS';obtain ⟨s0,s1,s2,s3⟩:=hS';go_simp;try rfl);simp only [aP])
     iterate 2 (refine nxW (v:=?_) 11 hS ?_ ?_;rotate_left;(focus intro w' hS';obtain ⟨s0,s1,s2,s3⟩:=hS';go_simp;try rfl);simp only [aP])
     refine oy 6 fun K hK=>?_
     have hlk:(Instr.lookup 119 (.map (some C.ma)) (.string ⟨x.nm.toArray⟩) false).run Tryz.prog wc.drew=.ok (.bool true) wc.drew:=by
      have h:=run_lookS (P:=Tryz.prog) (w:=wc.drew) (t:=119) (kt:=9) (e:=4) (HID.ck.ar:MapS wc.drew C.ma (nmE _)) Tryz.underlying119 Tryz.underlying9 x.nm (.bool false) (by kernel_rfl) false
      rw [if_neg (by decide),nmE_get,HCS.out] at h
      exact h
     go_simp
     refine hK _ _ (.inr (.inr hS)) ?_
     clear hK K
     refine oy 9 fun K hK=>?_
     go_simp
     (with_reducible refine (callsIn_wide.2 (need_true x.pos 6 wc.drew)).mono ?_)
     rintro e w3 ⟨rfl,hb3⟩
     have HI3:=hid (HID.below hb3)
     have HX3:=hid (HBXD.bel hb3)
     have hS3:(fun W=>W.cell? ⟨C.cb,6,none⟩=some (.map (some C.ma))/\W.cell? ⟨wr.heap.size,3,none⟩=some (.string ⟨x.nm.toArray⟩)/\W.cell? ⟨wr.heap.size,5,none⟩=some (.int .i64 x.pos.1)/\W.cell? ⟨wr.heap.size,6,none⟩=some (.int .i64 x.pos.2)) w3:=⟨HI3.c6,HX3.at 3 rfl,HX3.at 5 rfl,HX3.at 6 rfl⟩
     clear hb3 hS
     refine hK _ _ (.inr (.inr hS3)) (dN ?_)
     clear hK K
     simp only [onlyP,Exit.then]
     clear hFa
     go_wp2_with fail
     go_roundw
     case rel=>exact ⟨k+1,_,_,HLT.out,by rw [wrap_next HLT.out HS.len],HST.out,HI3.out⟩
     case measure=>exact meas_next HLT.out HS.len
    | false =>
     have HCS:=hid hcs
     have HST:=hid (show (.error (x.pos,6):Except Flt (List Bs × List Bs))=res from by rw [<- HSN2.out,hcs];rfl)
     clear hcs
     have hS:(fun W=>W.cell? ⟨C.cb,6,none⟩=some (.map (some C.ma))/\W.cell? ⟨wr.heap.size,3,none⟩=some (.string ⟨x.nm.toArray⟩)/\W.cell? ⟨wr.heap.size,5,none⟩=some (.int .i64 x.pos.1)/\W.cell? ⟨wr.heap.size,6,none⟩=some (.int .i64 x.pos.2)) wc.drew:=⟨HIC.c6,HX.at 3 rfl,HX.at 5 rfl,HX.at 6 rfl⟩
     have HID:=hid HIC.drew
     have HBXD:=hid (show BxL 41 wr.heap.size (inL x (.slice pa x.args.length ca)) wc.drew from HX.out)
     have hFa:∀ f,Fence.wide.fn f:=fun _=>trivial
     refine (wpIn_wide (n:=9)).1 ?_
     refine wpIn_onlyP (fun c w'=>IsPost B w C vl rs S res (.panicked c) w') (fun _ _ _ h=>h) ?_
     refine wpIn_region_HJ (fun W=>W.cell? ⟨C.cb,6,none⟩=some (.map (some C.ma))/\W.cell? ⟨wr.heap.size,3,none⟩=some (.string ⟨x.nm.toArray⟩)/\W.cell? ⟨wr.heap.size,5,none⟩=some (.int .i64 x.pos.1)/\W.cell? ⟨wr.heap.size,6,none⟩=some (.int .i64 x.pos.2)) 10 (by kernel_rfl) ?_
     simp only [zP,Nat.reduceAdd]
     iterate 6 (refine nxW (v:=?_) 10 hS ?_ ?_;rotate_left;(focus intro w' hS';obtain ⟨s0,s1,s2,s3⟩:=hS';go_simp;try rfl);simp only [aP])
     iterate 2 (refine nxW (v:=?_) 11 hS ?_ ?_;rotate_left;(focus intro w' hS';obtain ⟨s0,s1,s2,s3⟩:=hS';go_simp;try rfl);simp only [aP])
     refine oy 6 fun K hK=>?_
     have hlk:(Instr.lookup 119 (.map (some C.ma)) (.string ⟨x.nm.toArray⟩) false).run Tryz.prog wc.drew=.ok (.bool false) wc.drew:=by
      have h:=run_lookS (P:=Tryz.prog) (w:=wc.drew) (t:=119) (kt:=9) (e:=4) (HID.ck.ar:MapS wc.drew C.ma (nmE _)) Tryz.underlying119 Tryz.underlying9 x.nm (.bool false) (by kernel_rfl) false
      rw [if_neg (by decide),nmE_get,HCS.out] at h
      exact h
     go_simp
     refine hK _ _ (.inr (.inr hS)) ?_
     clear hK K
     refine oy 9 fun K hK=>?_
     go_simp
     (with_reducible refine (callsIn_wide.2 (need_false x.pos 6 wc.drew)).mono ?_)
     rintro e w3 ⟨rfl,hb3⟩
     exact ⟨rfl,by rw [<- HST.out];exact IsPost.bad ((HID.below hb3).bel HBS.out)⟩
   ·have t5:((x.kind:Int) == 5)=false:=by first | (rw [hkd];rfl) | (simp;omega)
    have t6:((x.kind:Int) == 6)=false:=by first | (rw [hkd];rfl) | (simp;omega)
    have t2:((x.kind:Int) == 2)=false:=by first | (rw [hkd];rfl) | (simp;omega)
    have t3:((x.kind:Int) == 3)=false:=by first | (rw [hkd];rfl) | (simp;omega)
    have t10:((x.kind:Int) == 10)=true:=by first | (rw [hkd];rfl) | (simp;omega)
    rw [if_neg (by omega),if_neg (by omega),if_pos hkd] at HSN2
    clear hkd
    have n3:wc.cell? ⟨wr.heap.size,3,none⟩=some (.string ⟨x.nm.toArray⟩):=HX.at 3 rfl
    have n5:wc.cell? ⟨wr.heap.size,5,none⟩=some (.int .i64 x.pos.1):=HX.at 5 rfl
    have n6:wc.cell? ⟨wr.heap.size,6,none⟩=some (.int .i64 x.pos.2):=HX.at 6 rfl
    cases hcs:lbl.contains x.nm with
    | true =>
     have HCS:=hid hcs
     have HST:=hid (show (.error (x.pos,8):Except Flt (List Bs × List Bs))=res from by rw [<- HSN2.out,hcs];rfl)
     clear hcs
     go_wp2_with (first
      | (at_lookup;refine wpList_lookS rfl _ _ 119 rfl 9 4 Tryz.underlying119 Tryz.underlying9 (.bool false) (fun W=>by kernel_rfl) w1.heap.size (nmE lbl) x.nm rfl HIC.out.nm rfl ?_;rw [nmE_get,HCS.out])
      | (go_at_call 118;with_reducible refine (need_false x.pos 8 _).mono ?_;rintro e w9 ⟨rfl,hb9⟩;have HI9:=hid (HIC.out.below hb9);clear hb9))
     exact ⟨rfl,by rw [<- HST.out];exact IsPost.bad (HI9.bel HBS.out)⟩
    | false =>
     have HCS:=hid hcs
     have HST:=hid (show bodyM S.chans S.arrays main (l.drop (k+1)) (lbl++[x.nm]) st=res from by rw [<- HSN2.out,hcs];rfl)
     have HAD:=hid (show addN lbl x.nm=lbl++[x.nm] from by unfold addN;rw [hcs];rfl)
     clear hcs
     go_upto_region 16 with (first
      | (at_lookup;refine wpList_lookS rfl _ _ 119 rfl 9 4 Tryz.underlying119 Tryz.underlying9 (.bool false) (fun W=>by kernel_rfl) w1.heap.size (nmE lbl) x.nm rfl HIC.out.nm rfl ?_;rw [nmE_get,HCS.out])
      | (go_at_call 118;with_reducible refine (need_true x.pos 8 _).mono ?_;rintro e w9 ⟨rfl,hb9⟩;have HI9:=hid (HIC.out.below hb9);have hx9:=HX.out.bel hb9;clear hb9))
     have m3:w9.cell? ⟨wr.heap.size,3,none⟩=some (.string ⟨x.nm.toArray⟩):=hx9.at 3 rfl
     go_wp2_with (at_mapUpdate;refine wpList_putS rfl _ _ _ 119 rfl 9 4 Tryz.underlying119 Tryz.underlying9 w1.heap.size (nmE lbl) x.nm (.bool true) rfl HI9.out.nm rfl rfl ?_;intro w5 hm5 hg5;rw [nmE_put] at hm5;have HI5:=hid (HI9.out.label hm5 hg5);clear hm5 hg5)
     rw [HAD.out] at HI5
     go_roundw
     case rel=>exact ⟨k+1,_,_,HLT.out,by rw [wrap_next HLT.out HS.len],HST.out,HI5.out⟩
     case measure=>exact meas_next HLT.out HS.len
   ·have t5:((x.kind:Int) == 5)=false:=by first | (rw [hkd];rfl) | (simp;omega)
    have t6:((x.kind:Int) == 6)=false:=by first | (rw [hkd];rfl) | (simp;omega)
    have t2:((x.kind:Int) == 2)=false:=by first | (rw [hkd];rfl) | (simp;omega)
    have t3:((x.kind:Int) == 3)=false:=by first | (rw [hkd];rfl) | (simp;omega)
    have t10:((x.kind:Int) == 10)=false:=by first | (rw [hkd];rfl) | (simp;omega)
    have t7:((x.kind:Int) == 7)=true:=by first | (rw [hkd];rfl) | (simp;omega)
    rw [if_neg (by omega),if_neg (by omega),if_neg (by omega),if_pos hkd] at HSN2
    clear hkd
    go_upto_region 18 with fail
    cases hcs:st.contains x.nm with
    | true =>
     have HCS:=hid hcs
     have HST:=hid (show bodyM S.chans S.arrays main (l.drop (k+1)) lbl (addN st x.nm)=res from by rw [<- HSN2.out,hcs];rfl)
     clear hcs
     have hS:(fun W=>W.cell? ⟨C.cb,7,none⟩=some (.map (some C.ms))/\W.cell? ⟨wr.heap.size,3,none⟩=some (.string ⟨x.nm.toArray⟩)/\W.cell? ⟨wr.heap.size,5,none⟩=some (.int .i64 x.pos.1)/\W.cell? ⟨wr.heap.size,6,none⟩=some (.int .i64 x.pos.2)) wc.drew:=⟨HIC.c7,HX.at 3 rfl,HX.at 5 rfl,HX.at 6 rfl⟩
     have HID:=hid HIC.drew
     have HBXD:=hid (show BxL 41 wr.heap.size (inL x (.slice pa x.args.length ca)) wc.drew from HX.out)
     have hFa:∀ f,Fence.wide.fn f:=fun _=>trivial
     refine (wpIn_wide (n:=9)).1 ?_
     refine wpIn_onlyP (fun c w'=>IsPost B w C vl rs S res (.panicked c) w') (fun _ _ _ h=>h) ?_
     refine wpIn_region_HJ (fun W=>W.cell? ⟨C.cb,7,none⟩=some (.map (some C.ms))/\W.cell? ⟨wr.heap.size,3,none⟩=some (.string ⟨x.nm.toArray⟩)/\W.cell? ⟨wr.heap.size,5,none⟩=some (.int .i64 x.pos.1)/\W.cell? ⟨wr.heap.size,6,none⟩=some (.int .i64 x.pos.2)) 18 (by kernel_rfl) ?_
     simp only [zP,Nat.reduceAdd]
     iterate 6 (refine nxW (v:=?_) 18 hS ?_ ?_;rotate_left;(focus intro w' hS';obtain ⟨s0,s1,s2,s3⟩:=hS';go_simp;try rfl);simp only [aP])
     iterate 2 (refine nxW (v:=?_) 27 hS ?_ ?_;rotate_left;(focus intro w' hS';obtain ⟨s0,s1,s2,s3⟩:=hS';go_simp;try rfl);simp only [aP])
     refine oy 6 fun K hK=>?_
     have hlk:(Instr.lookup 119 (.map (some C.ms)) (.string ⟨x.nm.toArray⟩) false).run Tryz.prog wc.drew=.ok (.bool true) wc.drew:=by
      have h:=run_lookS (P:=Tryz.prog) (w:=wc.drew) (t:=119) (kt:=9) (e:=4) (HID.ck.st:MapS wc.drew C.ms (nmE st)) Tryz.underlying119 Tryz.underlying9 x.nm (.bool false) (by kernel_rfl) false
      rw [if_neg (by decide),nmE_get,HCS.out] at h
      exact h
     go_simp
     refine hK _ _ (.inr (.inr hS)) ?_
     clear hK K
     refine wpHJ_take (v:=?v18) 7 hFa rfl (by kernel_rfl) onlyP_put (Or.inl ⟨by rfl,?y18⟩) hS ?r18
     case y18=>(rintro w' ⟨s0,s1,s2,s3⟩;go_simp;try rfl)
     simp only [aP]
     refine wpHJ_take (v:=undef) 8 hFa rfl (by kernel_rfl) onlyP_put (Or.inr ⟨by simp [Region.wanted,yielded,undef],rfl⟩) hS ?r19
     simp only [aP]
     refine wpHJ_take (v:=undef) 9 hFa rfl (by kernel_rfl) onlyP_put (Or.inr ⟨by simp [Region.wanted,yielded,undef],rfl⟩) hS ?r1a
     simp only [aP]
     refine wpHJ_take (v:=undef) 10 hFa rfl (by kernel_rfl) onlyP_put (Or.inr ⟨by simp [Region.wanted,yielded,undef],rfl⟩) hS ?r14
     simp only [aP]
     refine wpHJ_take (v:=undef) 11 hFa rfl (by kernel_rfl) onlyP_put (Or.inr ⟨by simp [Region.wanted,yielded,undef],rfl⟩) hS ?r15
     simp only [aP]
     refine oy 12 fun K hK=>?_
     rw [if_neg (by simp [Region.wanted,yielded,undef])]
     go_simp
     refine hK _ _ (.inr (.inr hS)) ?_
     clear hK K
     refine wpHJ_take (v:=undef) 13 hFa rfl (by kernel_rfl) onlyP_put (Or.inr ⟨by simp [Region.wanted,yielded,undef],rfl⟩) hS ?r16
     simp only [aP]
     refine wpHJ_take (v:=?v17) 14 hFa rfl (by kernel_rfl) onlyP_put (Or.inl ⟨by rfl,?y17⟩) hS ?r17
     case y17=>(rintro w' ⟨s0,s1,s2,s3⟩;go_simp;try rfl)
     simp only [aP]
     refine oy 17 fun K hK=>?_
     go_simp
     (with_reducible refine (callsIn_wide.2 (need_true x.pos 5 wc.drew)).mono ?_)
     rintro e w3 ⟨rfl,hb3⟩
     have HI3:=hid (HID.below hb3)
     have HX3:=hid (HBXD.bel hb3)
     have hS3:(fun W=>W.cell? ⟨C.cb,7,none⟩=some (.map (some C.ms))/\W.cell? ⟨wr.heap.size,3,none⟩=some (.string ⟨x.nm.toArray⟩)/\W.cell? ⟨wr.heap.size,5,none⟩=some (.int .i64 x.pos.1)/\W.cell? ⟨wr.heap.size,6,none⟩=some (.int .i64 x.pos.2)) w3:=⟨HI3.c7,HX3.at 3 rfl,HX3.at 5 rfl,HX3.at 6 rfl⟩
     clear hb3 hS
     refine hK _ _ (.inr (.inr hS3)) (dN ?_)
     clear hK K
     simp only [onlyP,Exit.then]
     clear hFa
     go_upto_region 19 with fail
     have hS9:(fun W=>W.cell? ⟨C.cb,7,none⟩=some (.map (some C.ms))/\W.cell? ⟨wr.heap.size,3,none⟩=some (.string ⟨x.nm.toArray⟩)) w3.drew:=⟨HI3.c7,HX3.at 3 rfl⟩
     obtain ⟨w5,hrun,hm5,hg5⟩:=run_putS (P:=Tryz.prog) (w:=w3.drew) (t:=119) (kt:=9) (e:=4) (HI3.drew.ck.st:MapS w3.drew C.ms (nmE st)) Tryz.underlying119 Tryz.underlying9 x.nm (.bool true)
     rw [nmE_put] at hm5
     have HI5:=hid (HI3.drew.site hm5 hg5)
     clear hm5 hg5
     have hFa:=fT
     refine rgN (fun W=>W.cell? ⟨C.cb,7,none⟩=some (.map (some C.ms))/\W.cell? ⟨wr.heap.size,3,none⟩=some (.string ⟨x.nm.toArray⟩)) 6 (by kernel_rfl) ?_
     simp only [zP,Nat.reduceAdd]
     iterate 3 (refine npW (v:=?_) 7 (.inr hS9) ?_ ?_;rotate_left;(focus intro w' _;go_simp;try rfl);simp only [aP])
     refine wpHJ_take (v:=?v1b) 3 hFa rfl (by kernel_rfl) nE (Or.inl ⟨by rfl,?y1b⟩) hS9 ?r1b
     case y1b=>(rintro w' ⟨s0,s1⟩;go_simp;try rfl)
     simp only [aP]
     refine wpHJ_pure (v:=?v1c) 4 hFa rfl (by kernel_rfl) nE (Or.inl ⟨by rfl,?y1c⟩) (.inr hS9) ?r1c
     case y1c=>(intro w' _;go_simp;try rfl)
     simp only [aP]
     refine wpHJ_take (v:=?v1d) 5 hFa rfl (by kernel_rfl) nE (Or.inl ⟨by rfl,?y1d⟩) hS9 ?r1d
     case y1d=>(rintro w' ⟨s0,s1⟩;go_simp;try rfl)
     simp only [aP]
     refine oy 6 fun K hK=>?_
     go_simp
     refine hK _ _ (.inl rfl) (dN ?_)
     clear hK K
     simp only [onlyN,Exit.then]
     clear hFa
     go_wp2_with fail
     go_roundw
     case rel=>exact ⟨k+1,_,_,HLT.out,by rw [wrap_next HLT.out HS.len],HST.out,HI5.out⟩
     case measure=>exact meas_next HLT.out HS.len
    | false =>
     have HCS:=hid hcs
     by_cases hln:st.length<32
     ·have HST:=hid (show bodyM S.chans S.arrays main (l.drop (k+1)) lbl (addN st x.nm)=res from by rw [<- HSN2.out,hcs,decide_eq_true hln];rfl)
      have t32:decide (((nmE st).length:Int)<32)=true:=by unfold nmE;rw [List.length_map];simp;omega
      clear hcs hln
      have hS:(fun W=>W.cell? ⟨C.cb,7,none⟩=some (.map (some C.ms))/\W.cell? ⟨wr.heap.size,3,none⟩=some (.string ⟨x.nm.toArray⟩)/\W.cell? ⟨wr.heap.size,5,none⟩=some (.int .i64 x.pos.1)/\W.cell? ⟨wr.heap.size,6,none⟩=some (.int .i64 x.pos.2)) wc.drew:=⟨HIC.c7,HX.at 3 rfl,HX.at 5 rfl,HX.at 6 rfl⟩
      have HID:=hid HIC.drew
      have HBXD:=hid (show BxL 41 wr.heap.size (inL x (.slice pa x.args.length ca)) wc.drew from HX.out)
      have hFa:∀ f,Fence.wide.fn f:=fun _=>trivial
      refine (wpIn_wide (n:=9)).1 ?_
      refine wpIn_onlyP (fun c w'=>IsPost B w C vl rs S res (.panicked c) w') (fun _ _ _ h=>h) ?_
      refine wpIn_region_HJ (fun W=>W.cell? ⟨C.cb,7,none⟩=some (.map (some C.ms))/\W.cell? ⟨wr.heap.size,3,none⟩=some (.string ⟨x.nm.toArray⟩)/\W.cell? ⟨wr.heap.size,5,none⟩=some (.int .i64 x.pos.1)/\W.cell? ⟨wr.heap.size,6,none⟩=some (.int .i64 x.pos.2)) 18 (by kernel_rfl) ?_
      simp only [zP,Nat.reduceAdd]
      iterate 6 (refine nxW (v:=?_) 18 hS ?_ ?_;rotate_left;(focus intro w' hS';obtain ⟨s0,s1,s2,s3⟩:=hS';go_simp;try rfl);simp only [aP])
      iterate 2 (refine nxW (v:=?_) 27 hS ?_ ?_;rotate_left;(focus intro w' hS';obtain ⟨s0,s1,s2,s3⟩:=hS';go_simp;try rfl);simp only [aP])
      refine oy 6 fun K hK=>?_
      have hlk:(Instr.lookup 119 (.map (some C.ms)) (.string ⟨x.nm.toArray⟩) false).run Tryz.prog wc.drew=.ok (.bool false) wc.drew:=by
       have h:=run_lookS (P:=Tryz.prog) (w:=wc.drew) (t:=119) (kt:=9) (e:=4) (HID.ck.st:MapS wc.drew C.ms (nmE st)) Tryz.underlying119 Tryz.underlying9 x.nm (.bool false) (by kernel_rfl) false
       rw [if_neg (by decide),nmE_get,HCS.out] at h
       exact h
      go_simp
      refine hK _ _ (.inr (.inr hS)) ?_
      clear hK K
      refine wpHJ_take (v:=?v1i) 7 hFa rfl (by kernel_rfl) onlyP_put (Or.inl ⟨by rfl,?y1i⟩) hS ?r1i
      case y1i=>(rintro w' ⟨s0,s1,s2,s3⟩;go_simp;try rfl)
      simp only [aP]
      refine wpHJ_take (v:=?v1j) 8 hFa rfl (by kernel_rfl) onlyP_put (Or.inl ⟨by simp [Region.wanted,yielded,undef],?y1j⟩) hS ?r1j
      case y1j=>(rintro w' ⟨s0,s1,s2,s3⟩;go_simp;try rfl)
      simp only [aP]
      refine wpHJ_take (v:=?v1k) 9 hFa rfl (by kernel_rfl) onlyP_put (Or.inl ⟨by simp [Region.wanted,yielded,undef],?y1k⟩) hS ?r1k
      case y1k=>(rintro w' ⟨s0,s1,s2,s3⟩;go_simp;try rfl)
      simp only [aP]
      refine wpHJ_take (v:=?v1e) 10 hFa rfl (by kernel_rfl) onlyP_put (Or.inl ⟨by simp [Region.wanted,yielded,undef],?y1e⟩) hS ?r1e
      case y1e=>(rintro w' ⟨s0,s1,s2,s3⟩;go_simp;try rfl)
      simp only [aP]
      refine wpHJ_take (v:=?v1f) 11 hFa rfl (by kernel_rfl) onlyP_put (Or.inl ⟨by simp [Region.wanted,yielded,undef],?y1f⟩) hS ?r1f
      case y1f=>(rintro w' ⟨s0,s1,s2,s3⟩;go_simp;try rfl)
      simp only [aP]
      refine oy 12 fun K hK=>?_
      rw [if_pos (by simp [Region.wanted,yielded,undef])]
      have hln:=len_run (P:=Tryz.prog) (w:=wc.drew) 119 9 4 3 Tryz.underlying119 (HID.ck.st:MapS wc.drew C.ms (nmE st))
      go_simp
      refine hK _ _ (.inr (.inr hS)) ?_
      clear hK K
      refine wpHJ_take (v:=?v1g) 13 hFa rfl (by kernel_rfl) onlyP_put (Or.inl ⟨by simp [Region.wanted,yielded,undef],?y1g⟩) hS ?r1g
      case y1g=>(rintro w' ⟨s0,s1,s2,s3⟩;go_simp;try rfl)
      simp only [aP]
      refine wpHJ_take (v:=?v1h) 14 hFa rfl (by kernel_rfl) onlyP_put (Or.inl ⟨by rfl,?y1h⟩) hS ?r1h
      case y1h=>(rintro w' ⟨s0,s1,s2,s3⟩;go_simp;try rfl)
      simp only [aP]
      refine oy 17 fun K hK=>?_
      go_simp
      (with_reducible refine (callsIn_wide.2 (need_true x.pos 5 wc.drew)).mono ?_)
      rintro e w3 ⟨rfl,hb3⟩
      have HI3:=hid (HID.below hb3)
      have HX3:=hid (HBXD.bel hb3)
      have hS3:(fun W=>W.cell? ⟨C.cb,7,none⟩=some (.map (some C.ms))/\W.cell? ⟨wr.heap.size,3,none⟩=some (.string ⟨x.nm.toArray⟩)/\W.cell? ⟨wr.heap.size,5,none⟩=some (.int .i64 x.pos.1)/\W.cell? ⟨wr.heap.size,6,none⟩=some (.int .i64 x.pos.2)) w3:=⟨HI3.c7,HX3.at 3 rfl,HX3.at 5 rfl,HX3.at 6 rfl⟩
      clear hb3 hS
      refine hK _ _ (.inr (.inr hS3)) (dN ?_)
      clear hK K
      simp only [onlyP,Exit.then]
      clear hFa
      go_upto_region 19 with fail
      have hS9:(fun W=>W.cell? ⟨C.cb,7,none⟩=some (.map (some C.ms))/\W.cell? ⟨wr.heap.size,3,none⟩=some (.string ⟨x.nm.toArray⟩)) w3.drew:=⟨HI3.c7,HX3.at 3 rfl⟩
      obtain ⟨w5,hrun,hm5,hg5⟩:=run_putS (P:=Tryz.prog) (w:=w3.drew) (t:=119) (kt:=9) (e:=4) (HI3.drew.ck.st:MapS w3.drew C.ms (nmE st)) Tryz.underlying119 Tryz.underlying9 x.nm (.bool true)
      rw [nmE_put] at hm5
      have HI5:=hid (HI3.drew.site hm5 hg5)
      clear hm5 hg5
      have hFa:=fT
      refine rgN (fun W=>W.cell? ⟨C.cb,7,none⟩=some (.map (some C.ms))/\W.cell? ⟨wr.heap.size,3,none⟩=some (.string ⟨x.nm.toArray⟩)) 6 (by kernel_rfl) ?_
      simp only [zP,Nat.reduceAdd]
      iterate 3 (refine npW (v:=?_) 7 (.inr hS9) ?_ ?_;rotate_left;(focus intro w' _;go_simp;try rfl);simp only [aP])
      refine wpHJ_take (v:=?v1l) 3 hFa rfl (by kernel_rfl) nE (Or.inl ⟨by rfl,?y1l⟩) hS9 ?r1l
      case y1l=>(rintro w' ⟨s0,s1⟩;go_simp;try rfl)
      simp only [aP]
      refine wpHJ_pure (v:=?v1m) 4 hFa rfl (by kernel_rfl) nE (Or.inl ⟨by rfl,?y1m⟩) (.inr hS9) ?r1m
      case y1m=>(intro w' _;go_simp;try rfl)
      simp only [aP]
      refine wpHJ_take (v:=?v1n) 5 hFa rfl (by kernel_rfl) nE (Or.inl ⟨by rfl,?y1n⟩) hS9 ?r1n
      case y1n=>(rintro w' ⟨s0,s1⟩;go_simp;try rfl)
      simp only [aP]
      refine oy 6 fun K hK=>?_
      go_simp
      refine hK _ _ (.inl rfl) (dN ?_)
      clear hK K
      simp only [onlyN,Exit.then]
      clear hFa
      go_wp2_with fail
      go_roundw
      case rel=>exact ⟨k+1,_,_,HLT.out,by rw [wrap_next HLT.out HS.len],HST.out,HI5.out⟩
      case measure=>exact meas_next HLT.out HS.len
     ·have HST:=hid (show (.error (x.pos,5):Except Flt (List Bs × List Bs))=res from by rw [<- HSN2.out,hcs,decide_eq_false hln];rfl)
      have t32:decide (((nmE st).length:Int)<32)=false:=by unfold nmE;rw [List.length_map];simp;omega
      clear hcs hln
      have hS:(fun W=>W.cell? ⟨C.cb,7,none⟩=some (.map (some C.ms))/\W.cell? ⟨wr.heap.size,3,none⟩=some (.string ⟨x.nm.toArray⟩)/\W.cell? ⟨wr.heap.size,5,none⟩=some (.int .i64 x.pos.1)/\W.cell? ⟨wr.heap.size,6,none⟩=some (.int .i64 x.pos.2)) wc.drew:=⟨HIC.c7,HX.at 3 rfl,HX.at 5 rfl,HX.at 6 rfl⟩
      have HID:=hid HIC.drew
      have HBXD:=hid (show BxL 41 wr.heap.size (inL x (.slice pa x.args.length ca)) wc.drew from HX.out)
      have hFa:∀ f,Fence.wide.fn f:=fun _=>trivial
      refine (wpIn_wide (n:=9)).1 ?_
      refine wpIn_onlyP (fun c w'=>IsPost B w C vl rs S res (.panicked c) w') (fun _ _ _ h=>h) ?_
      refine wpIn_region_HJ (fun W=>W.cell? ⟨C.cb,7,none⟩=some (.map (some C.ms))/\W.cell? ⟨wr.heap.size,3,none⟩=some (.string ⟨x.nm.toArray⟩)/\W.cell? ⟨wr.heap.size,5,none⟩=some (.int .i64 x.pos.1)/\W.cell? ⟨wr.heap.size,6,none⟩=some (.int .i64 x.pos.2)) 18 (by kernel_rfl) ?_
      simp only [zP,Nat.reduceAdd]
      iterate 6 (refine nxW (v:=?_) 18 hS ?_ ?_;rotate_left;(focus intro w' hS';obtain ⟨s0,s1,s2,s3⟩:=hS';go_simp;try rfl);simp only [aP])
      iterate 2 (refine nxW (v:=?_) 27 hS ?_ ?_;rotate_left;(focus intro w' hS';obtain ⟨s0,s1,s2,s3⟩:=hS';go_simp;try rfl);simp only [aP])
      refine oy 6 fun K hK=>?_
      have hlk:(Instr.lookup 119 (.map (some C.ms)) (.string ⟨x.nm.toArray⟩) false).run Tryz.prog wc.drew=.ok (.bool false) wc.drew:=by
       have h:=run_lookS (P:=Tryz.prog) (w:=wc.drew) (t:=119) (kt:=9) (e:=4) (HID.ck.st:MapS wc.drew C.ms (nmE st)) Tryz.underlying119 Tryz.underlying9 x.nm (.bool false) (by kernel_rfl) false
       rw [if_neg (by decide),nmE_get,HCS.out] at h
       exact h
      go_simp
      refine hK _ _ (.inr (.inr hS)) ?_
      clear hK K
      refine wpHJ_take (v:=?v1s) 7 hFa rfl (by kernel_rfl) onlyP_put (Or.inl ⟨by rfl,?y1s⟩) hS ?r1s
      case y1s=>(rintro w' ⟨s0,s1,s2,s3⟩;go_simp;try rfl)
      simp only [aP]
      refine wpHJ_take (v:=?v1t) 8 hFa rfl (by kernel_rfl) onlyP_put (Or.inl ⟨by simp [Region.wanted,yielded,undef],?y1t⟩) hS ?r1t
      case y1t=>(rintro w' ⟨s0,s1,s2,s3⟩;go_simp;try rfl)
      simp only [aP]
      refine wpHJ_take (v:=?v1u) 9 hFa rfl (by kernel_rfl) onlyP_put (Or.inl ⟨by simp [Region.wanted,yielded,undef],?y1u⟩) hS ?r1u
      case y1u=>(rintro w' ⟨s0,s1,s2,s3⟩;go_simp;try rfl)
      simp only [aP]
      refine wpHJ_take (v:=?v1o) 10 hFa rfl (by kernel_rfl) onlyP_put (Or.inl ⟨by simp [Region.wanted,yielded,undef],?y1o⟩) hS ?r1o
      case y1o=>(rintro w' ⟨s0,s1,s2,s3⟩;go_simp;try rfl)
      simp only [aP]
      refine wpHJ_take (v:=?v1p) 11 hFa rfl (by kernel_rfl) onlyP_put (Or.inl ⟨by simp [Region.wanted,yielded,undef],?y1p⟩) hS ?r1p
      case y1p=>(rintro w' ⟨s0,s1,s2,s3⟩;go_simp;try rfl)
      simp only [aP]
      refine oy 12 fun K hK=>?_
      rw [if_pos (by simp [Region.wanted,yielded,undef])]
      have hln:=len_run (P:=Tryz.prog) (w:=wc.drew) 119 9 4 3 Tryz.underlying119 (HID.ck.st:MapS wc.drew C.ms (nmE st))
      go_simp
      refine hK _ _ (.inr (.inr hS)) ?_
      clear hK K
      refine wpHJ_take (v:=?v1q) 13 hFa rfl (by kernel_rfl) onlyP_put (Or.inl ⟨by simp [Region.wanted,yielded,undef],?y1q⟩) hS ?r1q
      case y1q=>(rintro w' ⟨s0,s1,s2,s3⟩;go_simp;try rfl)
      simp only [aP]
      refine wpHJ_take (v:=?v1r) 14 hFa rfl (by kernel_rfl) onlyP_put (Or.inl ⟨by rfl,?y1r⟩) hS ?r1r
      case y1r=>(rintro w' ⟨s0,s1,s2,s3⟩;go_simp;try rfl)
      simp only [aP]
      refine oy 17 fun K hK=>?_
      go_simp
      (with_reducible refine (callsIn_wide.2 (need_false x.pos 5 wc.drew)).mono ?_)
      rintro e w3 ⟨rfl,hb3⟩
      exact ⟨rfl,by rw [<- HST.out];exact IsPost.bad ((HID.below hb3).bel HBS.out)⟩
   ·have t5:((x.kind:Int) == 5)=false:=by first | (rw [hkd];rfl) | (simp;omega)
    have t6:((x.kind:Int) == 6)=false:=by first | (rw [hkd];rfl) | (simp;omega)
    have t2:((x.kind:Int) == 2)=false:=by first | (rw [hkd];rfl) | (simp;omega)
    have t3:((x.kind:Int) == 3)=false:=by first | (rw [hkd];rfl) | (simp;omega)
    have t10:((x.kind:Int) == 10)=false:=by first | (rw [hkd];rfl) | (simp;omega)
    have t7:((x.kind:Int) == 7)=false:=by first | (rw [hkd];rfl) | (simp;omega)
    have HST:=hid (show bodyM S.chans S.arrays main (l.drop (k+1)) lbl st=res from by rw [<- HSN2.out,if_neg (by omega),if_neg (by omega),if_neg (by omega),if_neg (by omega)];rfl)
    clear hkd
    go_wp2_with fail
    go_roundw
    case rel=>exact ⟨k+1,_,_,HLT.out,by rw [wrap_next HLT.out HS.len],HST.out,HIC.out⟩
    case measure=>exact meas_next HLT.out HS.len
  ·obtain rfl:k=l.length:=by omega
   have HR:=hid (show (.ok (lbl,st):Except Flt (List Bs × List Bs))=res from by rw [<- hm,List.drop_length];rfl)
   have HI:=hid hil
   clear hlt hm hil
   obtain ⟨pl,cl,hvl,_,_⟩:=HI.ck.lb.slcN (rfl:rs.length=rs.length)
   have hb9:wr.cell? ⟨C.cb,9,none⟩=some vl:=HI.ck.box.at 9 rfl
   have hfr:∀ o,(wr.alloc o).frozen? ⟨C.cb,9,none⟩=false:=fun o=>(HI.ck.below ((Below.refl _ _).alloc lrf o)).box.fr 9
   rw [hvl] at hb9
   have HVL:=hid hvl
   have HGL:=hid (show GA kMap B 119 wr (.slice pl rs.length cl) rs from by rw [<- hvl];exact HI.ck.lb)
   have HNE:=hid (show (Value.slice pl rs.length cl).ownBlock ≠ some C.cb from by rw [<- hvl];exact HI.ck.own)
   clear hvl
   go_wp2_with (at_builtin;refine wpList_push (K:=kMap) (x:=w1.heap.size) (cs:=[.map (some w1.heap.size)]) (te:=119) rfl _ _ 121 rfl Tryz.underlying121 _ 8 info_nm rfl HGL.out rfl rfl rfl (by have:=HRS.out;omega) (by have:=HRS.out;unfold maxLen;omega) HI.out.ck.size ?_;intro v5 w5 hg5 hgr5 hmv5;obtain ⟨p5,c5,rfl,_,_⟩:=hg5.slcN (by simp:(rs++[w1.heap.size]).length=rs.length+1);have HG5:=hid hg5;have HR5:=hid hgr5;have HM5:=hid hmv5;have hbx5:BxL 123 C.cb (ckL C (.slice pl rs.length cl)) w5:=(by rw [<- HVL.out];exact HI.out.ck.box.keep (by rw [hgr5.block C.cb (by rw [sA];have:=HI.out.ck.box.lt;omega) (fun e=>HNE.out e.symm),heap_al,if_neg (by have:=HI.out.ck.box.lt;omega)]));have hf9:=hbx5.fr 9;have hc9:=(hbx5.at 9 rfl:w5.cell? ⟨C.cb,9,none⟩=some (.slice pl rs.length cl));clear hg5 hgr5 hmv5 hbx5)
   go_end0
   rw [<- HR.out]
   have hvl:=HVL.out
   obtain ⟨h1,h2⟩:=HI.ck.push HI.nm HI.off (by rw [hvl];exact HR5.out) HG5.out (by rw [hvl];exact HM5.out)
   have hbut:=HI.but
   refine ⟨rfl,_,w1.heap.size,h1,?_,HB1.size,(Moved.refl w vl).trans hbut.size (by rw [hvl];exact HM5.out)⟩
   exact (hbut.mono fun k hk => .inr (.inl hk)).trans (h2.mono fun k hk=>by
    rcases hk with hk | hk
    ·exact Or.inl hk
    ·exact Or.inr (Or.inr hk))
end Go.Proofs.YtoofbgoeipijcaaGreatDoor
