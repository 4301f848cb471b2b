/-
 A part.
-/
import Derived.Test.YtoofbgoeipijcaaGreatDoorVSPpW
namespace Go.Proofs.YtoofbgoeipijcaaGreatDoor
set_option maxRecDepth 100000
set_option maxHeartbeats 4000000
set_option linter.all false
open Go.RowKit Go.Shelf
attribute [local go_sem] Oper.semAt_some
theorem instr_f (x:In) (v:Value) (w:World) (h8:x.kind<=255/\x.op<=255) (hl:x.args.length<=100000) (hn:∀ a ∈ x.args,a.num<18446744073709551616) (h:SlG kAg (·<w.heap.size) w v x.args) (hE:PrE w) (hk:x.kind=4->x.nm=[102]:=by decide) :
  Calls Tryz.prog 61 #[.agg #[.int .u8 (x.kind:Int),.int .u8 (x.op:Int),.string ⟨x.dst.toArray⟩,.string ⟨x.nm.toArray⟩,v,.int .i64 x.pos.1,.int .i64 x.pos.2]] w fun e w'=>e=.returned (.tuple #[.string ⟨(instrM x).1.toArray⟩,.int .i64 (instrM x).2])/\Below w.heap.size w w':=by
 by_cases h4:x.kind=4
 ·exact instr_4f x v w ⟨h4,hk h4,hl⟩ h8 hn h hE
 ·by_cases h5:x.kind=5
  ·exact instr_B5 x v w h5 h8 hn h hE
  ·by_cases h6:x.kind=6
   ·exact instr_B6 x v w h6 h8 hn h hE
   ·by_cases h2:x.kind=2
    ·exact instr_C2 x v w h2 h8 hn h hE
    ·by_cases h3:x.kind=3
     ·exact instr_C3 x v w h3 h8 hn h hE
     ·exact instr_A x v w ⟨h2,h3,h4,h5,h6⟩ h8 hn h hE
theorem lline_any (x:In) (v:Value) (s:Bs) (w:World) (h8:x.kind<=255/\x.op<=255) (hl:x.args.length<=100000) (hn:∀ a ∈ x.args,a.num<18446744073709551616) (h:SlG kAg (·<w.heap.size) w v x.args) (hE:PrE w) (hx:instrM x=(s,0)) (hk:x.kind=4->x.nm=[102]:=by decide) :
  Calls Tryz.prog 59 #[.agg #[.int .u8 (x.kind:Int),.int .u8 (x.op:Int),.string ⟨x.dst.toArray⟩,.string ⟨x.nm.toArray⟩,v,.int .i64 x.pos.1,.int .i64 x.pos.2],.string ⟨s.toArray⟩] w fun e w'=>e=.returned (.bool true)/\Below w.heap.size w w':=by
 obtain ⟨pa,ca,rfl⟩:=h.slc
 have HS:=hid h;have HE:=hid hE;have HX:=hid hx;have HN:=hid hn;have H8:=hid (And.intro h8 hl);have HK:=hid hk
 clear h hE hx hn h8 hl hk
 go_enter Tryz.func59,Tryz.ntmps59
 go_upto_region 1 with fail
 obtain ⟨wo,hwo⟩:∃ W,w.alloc (.cells #[.int .u8 (x.kind:Int),.int .u8 (x.op:Int),.string ⟨x.dst.toArray⟩,.string ⟨x.nm.toArray⟩,.slice pa x.args.length ca,.int .i64 x.pos.1,.int .i64 x.pos.2] 41)=W:=⟨_,rfl⟩
 have HB:=hid (show Below w.heap.size w wo from by rw [<- hwo];exact bA)
 have HBX:=hid (show BxL 41 w.heap.size [.int .u8 (x.kind:Int),.int .u8 (x.op:Int),.string ⟨x.dst.toArray⟩,.string ⟨x.nm.toArray⟩,.slice pa x.args.length ca,.int .i64 x.pos.1,.int .i64 x.pos.2] wo from by rw [<- hwo];exact BxL.new _ _ _)
 rw [hwo]
 clear hwo
 obtain ⟨n0,n1,n2,n3,n4,n5,n6⟩:=HBX.p7
 go_wp2_with (go_at_call 61;(refine (instr_f x _ _ H8.out.1 H8.out.2 HN.out (HS.out.below HB.out) (HE.out.below HB.out) HK.out).mono ?_);rintro e w1 ⟨rfl,hb1⟩;rw [HX.out];have HB1:=hid (HB.out.trans (hb1.mono HB.out.size));clear hb1)
 go_ret
 exact ⟨rfl,HB1.out⟩
def ofA (s:Bs):Ag:=if s=[] then ⟨[],1⟩ else ⟨s,0⟩
theorem lof_any (l:List Bs) (v:Value) (w:World) (h:SlG kStr (·<w.heap.size) w v l) (hl:l.length<=100000) :
  Calls Tryz.prog 60 #[v] w fun e w'=>∃ v',e=.returned v'/\GA kAg w.heap.size 43 w' v' (l.map ofA)/\Below w.heap.size w w':=by
 obtain ⟨p,c,rfl⟩:=h.slc
 have HS:=hid h;have HL:=hid hl
 clear h hl
 go_enter Tryz.func60,Tryz.ntmps60
 go_wp2
 go_loopw [3,4] (fun ov iv wr=>∃ k:Nat,k<=l.length/\iv=.int .i64 (k:Int)/\GA kAg w.heap.size 43 wr ov ((l.take k).map ofA)/\Below w.heap.size w wr) (fun _ iv _=>l.length - (intOf iv).toNat)
 case atStart=>exact ⟨0,Nat.zero_le _,rfl,GA.nil _ _ _ _,Below.refl _ _⟩
 case round =>
  obtain ⟨k,hk,rfl,hga,hbr⟩:=hrel
  obtain ⟨T,hT⟩:∃ T,(l.take k).map ofA=T:=⟨_,rfl⟩
  rw [hT] at hga
  have HTD:=hid hT
  clear hT
  obtain ⟨po,co,rfl⟩:=hga.slc
  by_cases hlt:k<l.length
  ·obtain ⟨b,off,rfl,hR,hcells⟩:=str_at HS.out (by omega:0<l.length)
   have d0:=(hbr.cell (p:=⟨b,off+k,none⟩) hR).trans (hcells k hlt)
   have HSN:=hid (show (l.take (k+1)).map ofA=T++[ofA l[k]] from by rw [List.take_succ_eq_append_getElem hlt,List.map_append,HTD.out];rfl)
   have HCL:=hid (show T.length<=100000 from by rw [<- HTD.out,List.length_map,List.length_take];have:=HL.out;omega)
   have HLT:=hid hlt;have HBR:=hid hbr;have HGR:=hid hga
   have HR:=hid hR
   clear hcells hbr hga HTD hR
   generalize l[k]=x at *
   have hlt:=HLT.out
   go_upto_region 6 with fail
   obtain ⟨wo,hwo⟩:∃ W,wr.alloc (.cells #[.string ⟨x.toArray⟩,.int .u64 0] 43)=W:=⟨_,rfl⟩
   have hbo:Below wr.heap.size wr wo:=by rw [<- hwo];exact bA
   have HBX:=hid (show BxL 43 wr.heap.size [.string ⟨x.toArray⟩,.int .u64 0] wo from by rw [<- hwo];exact BxL.new _ _ _)
   have HBO:=hid (HBR.trans (hbo.mono HBR.size))
   have HGO:=hid (HGR.keep hbo)
   have HNB:=hid HBR.size
   rw [hwo]
   have e0:wo.cell? ⟨b,off+k,none⟩=some (.string ⟨x.toArray⟩):=(hbo.cell (p:=⟨b,off+k,none⟩) (Nat.lt_of_lt_of_le HR.out HBR.size)).trans d0
   obtain ⟨n0,n1⟩:=HBX.p2
   have n2:wo.frozen? ⟨wr.heap.size,1,none⟩=false:=HBX.fr 1
   clear hwo hbo d0
   by_cases h0:x=[]
   ·have t4:x.isEmpty=true:=by rw [h0];rfl
    have HA:=hid (show ofA x=⟨x,1⟩ from by unfold ofA;rw [if_pos h0,h0])
    clear h0
    go_upto_region 8 with fail
    obtain ⟨w5,hw5⟩:∃ W,wo.setCell ⟨wr.heap.size,1,none⟩ (.int .u64 1)=W:=⟨_,rfl⟩
    have hx5:BxL 43 wr.heap.size [.string ⟨x.toArray⟩,.int .u64 1] w5:=by rw [<- hw5];exact HBX.set 1 _
    have HB5:=hid (show Below w.heap.size w w5 from by rw [<- hw5];exact HBO.setCell (p:=⟨wr.heap.size,1,none⟩) HNB.out _)
    have HG5:=hid (show GA kAg w.heap.size 43 w5 (.slice po T.length co) T from by
     obtain ⟨css,h1,h2⟩:=HGO.row
     have hlt:∀ j,(Value.slice po T.length co).ownBlock=some j->j<wr.heap.size:=fun j hj=>(HGR.lt j hj).2
     rw [<- hw5]
     exact ⟨⟨css,⟨h1.1,fun i hi hi'=>h1.2 i hi hi'⟩,owns_keepG h2 fun j hj=>heap_ot (by have:=hlt j hj;omega) _⟩⟩)
    rw [hw5]
    obtain ⟨m0,m1⟩:=hx5.p2
    clear hw5 hx5 n0 n1 n2 e0
    go_wp2_with (at_builtin;refine wpList_push (K:=kAg) (x:=⟨x,1⟩) (cs:=[.string ⟨x.toArray⟩,.int .u64 1]) (te:=43) rfl _ _ 37 rfl Tryz.underlying37 _ 24 info_ag rfl HG5.out rfl rfl rfl (by have:=HCL.out;omega) (by have:=HCL.out;unfold maxLen;omega) HB5.out.size ?_;intro v6 w6 hg6 hgr6 hm6;have HG6:=hid hg6;have HB6:=hid (below_push HG5.out HB5.out hgr6 HB5.out.size);clear hg6 hgr6 hm6)
    go_roundw
    case rel=>exact ⟨k+1,HLT.out,by rw [wrap_next HLT.out HS.len],by rw [HSN.out,HA.out];exact HG6.out,HB6.out⟩
    case measure=>exact meas_next HLT.out HS.len
   ·have t4:x.isEmpty=false:=by simpa using h0
    have HA:=hid (show ofA x=⟨x,0⟩ from by unfold ofA;rw [if_neg h0])
    clear h0
    go_wp2_with (at_builtin;refine wpList_push (K:=kAg) (x:=⟨x,0⟩) (cs:=[.string ⟨x.toArray⟩,.int .u64 0]) (te:=43) rfl _ _ 37 rfl Tryz.underlying37 _ 24 info_ag rfl HGO.out rfl rfl rfl (by have:=HCL.out;omega) (by have:=HCL.out;unfold maxLen;omega) HBO.out.size ?_;intro v6 w6 hg6 hgr6 hm6;have HG6:=hid hg6;have HB6:=hid (below_push HGO.out HBO.out hgr6 HBO.out.size);clear hg6 hgr6 hm6)
    go_roundw
    case rel=>exact ⟨k+1,HLT.out,by rw [wrap_next HLT.out HS.len],by rw [HSN.out,HA.out];exact HG6.out,HB6.out⟩
    case measure=>exact meas_next HLT.out HS.len
  ·obtain rfl:k=l.length:=by omega
   have HBR:=hid hbr;have HGR:=hid hga
   clear hlt hbr hga
   go_wp2_with fail
   go_ret
   have hga:=HGR.out
   have hT:=HTD.out
   rw [List.take_length] at hT
   subst hT
   exact ⟨_,rfl,hga,HBR.out⟩
theorem of_lit (L:List Bs) (w:World) (h0:L ≠ []) (hL:L.length<=5) :
  Calls Tryz.prog 60 #[.slice (some ⟨w.heap.size,0,none⟩) L.length L.length] (w.alloc (.cells (L.map sv).toArray 9)) fun e w'=>∃ p c,e=.returned (.slice p L.length c)/\SlG kAg (·<w'.heap.size) w' (.slice p L.length c) (L.map ofA)/\Below w.heap.size w w':=by
 have h1:GA kStr w.heap.size 9 (w.alloc (.cells (L.map sv).toArray 9)) (.slice (some ⟨w.heap.size,0,none⟩) L.length L.length) L:=GA.litS w 9 L h0 (by omega) lrf
 refine (lof_any L _ _ (h1.sl (by omega)) (by omega)).mono fun e w' h=>?_
 obtain ⟨v',rfl,hg,hb⟩:=h
 obtain ⟨p,c,hv⟩:=hg.slc
 rw [List.length_map] at hv
 subst hv
 exact ⟨p,c,rfl,hg.sl (by rw [List.length_map];omega),(bA).trans (hb.mono (by rw [sA];omega))⟩
theorem ag_lit (w:World) (l:List Ag) (h0:l ≠ []) (hl:l.length<=100):SlG kAg (·<(w.alloc (.cells (l.flatMap fun a=>[.string ⟨a.nm.toArray⟩,.int .u64 (a.num:Int)]).toArray 43)).heap.size) (w.alloc (.cells (l.flatMap fun a=>[.string ⟨a.nm.toArray⟩,.int .u64 (a.num:Int)]).toArray 43)) (.slice (some ⟨w.heap.size,0,none⟩) l.length l.length) l:=by
 simp only [List.flatMap_def]
 refine ⟨l.map fun a=>[.string ⟨a.nm.toArray⟩,.int .u64 (a.num:Int)],⟨by simp,fun i hi hi'=>by simp;rfl⟩,_,_,rfl,Nat.le_refl _,by unfold maxLen;omega,by omega,.inr ⟨w.heap.size,0,rfl,by rw [sA];omega,fun j hj=>?_⟩⟩
 rw [Nat.zero_add]
 exact (BxL.new 43 w (l.map fun a=>[.string ⟨a.nm.toArray⟩,.int .u64 (a.num:Int)]).flatten).at j (List.getElem?_eq_getElem hj)
theorem ofl_0 (w:World):Calls Tryz.prog 60 #[.slice (some ⟨w.heap.size,0,none⟩) 2 2] (w.alloc (.cells #[.string ⟨#[121]⟩,.string ⟨#[]⟩] 9)) fun e w'=>∃ p c,e=.returned (.slice p 2 c)/\SlG kAg (·<w'.heap.size) w' (.slice p 2 c) [⟨[121],0⟩,⟨[],1⟩]/\Below w.heap.size w w':=of_lit [[121],[]] w (by simp) (by simp)
theorem ofl_1 (w:World):Calls Tryz.prog 60 #[.slice (some ⟨w.heap.size,0,none⟩) 1 1] (w.alloc (.cells #[.string ⟨#[105]⟩] 9)) fun e w'=>∃ p c,e=.returned (.slice p 1 c)/\SlG kAg (·<w'.heap.size) w' (.slice p 1 c) [⟨[105],0⟩]/\Below w.heap.size w w':=of_lit [[105]] w (by simp) (by simp)
theorem ofl_2 (w:World):Calls Tryz.prog 60 #[.slice (some ⟨w.heap.size,0,none⟩) 2 2] (w.alloc (.cells #[.string ⟨#[]⟩,.string ⟨#[121]⟩] 9)) fun e w'=>∃ p c,e=.returned (.slice p 2 c)/\SlG kAg (·<w'.heap.size) w' (.slice p 2 c) [⟨[],1⟩,⟨[121],0⟩]/\Below w.heap.size w w':=of_lit [[],[121]] w (by simp) (by simp)
theorem ofl_3 (w:World):Calls Tryz.prog 60 #[.slice (some ⟨w.heap.size,0,none⟩) 1 1] (w.alloc (.cells #[.string ⟨#[120]⟩] 9)) fun e w'=>∃ p c,e=.returned (.slice p 1 c)/\SlG kAg (·<w'.heap.size) w' (.slice p 1 c) [⟨[120],0⟩]/\Below w.heap.size w w':=of_lit [[120]] w (by simp) (by simp)
theorem ofl_4 (w:World):Calls Tryz.prog 60 #[.slice (some ⟨w.heap.size,0,none⟩) 1 1] (w.alloc (.cells #[.string ⟨#[121]⟩] 9)) fun e w'=>∃ p c,e=.returned (.slice p 1 c)/\SlG kAg (·<w'.heap.size) w' (.slice p 1 c) [⟨[121],0⟩]/\Below w.heap.size w w':=of_lit [[121]] w (by simp) (by simp)
theorem ofl_5 (w:World):Calls Tryz.prog 60 #[.slice (some ⟨w.heap.size,0,none⟩) 3 3] (w.alloc (.cells #[.string ⟨#[120]⟩,.string ⟨#[120]⟩,.string ⟨#[120]⟩] 9)) fun e w'=>∃ p c,e=.returned (.slice p 3 c)/\SlG kAg (·<w'.heap.size) w' (.slice p 3 c) [⟨[120],0⟩,⟨[120],0⟩,⟨[120],0⟩]/\Below w.heap.size w w':=of_lit [[120],[120],[120]] w (by simp) (by simp)
theorem ofl_6 (w:World):Calls Tryz.prog 60 #[.slice (some ⟨w.heap.size,0,none⟩) 1 1] (w.alloc (.cells #[.string ⟨#[112]⟩] 9)) fun e w'=>∃ p c,e=.returned (.slice p 1 c)/\SlG kAg (·<w'.heap.size) w' (.slice p 1 c) [⟨[112],0⟩]/\Below w.heap.size w w':=of_lit [[112]] w (by simp) (by simp)
theorem ofl_7 (w:World):Calls Tryz.prog 60 #[.slice (some ⟨w.heap.size,0,none⟩) 1 1] (w.alloc (.cells #[.string ⟨#[]⟩] 9)) fun e w'=>∃ p c,e=.returned (.slice p 1 c)/\SlG kAg (·<w'.heap.size) w' (.slice p 1 c) [⟨[],1⟩]/\Below w.heap.size w w':=of_lit [[]] w (by simp) (by simp)
theorem ofl_6s (n:Nat) (w:World) (hn:n=w.heap.size):Calls Tryz.prog 60 #[.slice (some ⟨n,0,none⟩) 1 1] (w.alloc (.cells #[.string ⟨#[112]⟩] 9)) fun e w'=>∃ p c,e=.returned (.slice p 1 c)/\SlG kAg (·<w'.heap.size) w' (.slice p 1 c) [⟨[112],0⟩]/\Below w.heap.size w w':=by subst hn;exact ofl_6 w
theorem ofl_7s (n:Nat) (w:World) (hn:n=w.heap.size):Calls Tryz.prog 60 #[.slice (some ⟨n,0,none⟩) 1 1] (w.alloc (.cells #[.string ⟨#[]⟩] 9)) fun e w'=>∃ p c,e=.returned (.slice p 1 c)/\SlG kAg (·<w'.heap.size) w' (.slice p 1 c) [⟨[],1⟩]/\Below w.heap.size w w':=by subst hn;exact ofl_7 w
theorem lnl_0 (w:World) (hE:PrE w):Calls Tryz.prog 59 #[.agg #[.int .u8 0,.int .u8 0,.string ⟨#[120]⟩,.string ⟨#[]⟩,.slice (some ⟨w.heap.size,0,none⟩) 1 1,.int .i64 0,.int .i64 0],.string ⟨#[120,32,61,32,55]⟩] (w.alloc (.cells #[.string ⟨#[]⟩,.int .u64 7] 43)) fun e w'=>e=.returned (.bool true)/\Below w.heap.size w w' :=
 (lline_any ⟨0,0,[120],[],[⟨[],7⟩],(0,0)⟩ (.slice (some ⟨w.heap.size,0,none⟩) 1 1) [120,32,61,32,55] _ (by decide) (by simp) (by simp) (ag_lit w [⟨[],7⟩] (by simp) (by simp)) (hE.below (bA)) (by decide +kernel)).mono fun e w' h=>⟨h.1,(bA).trans (h.2.mono (by rw [sA];omega))⟩
theorem lnl_1 (p:Option Addr) (c:Nat) (w:World) (h:SlG kAg (·<w.heap.size) w (.slice p 2 c) [⟨[121],0⟩,⟨[],1⟩]) (hE:PrE w):Calls Tryz.prog 59 #[.agg #[.int .u8 1,.int .u8 4,.string ⟨#[120]⟩,.string ⟨#[]⟩,.slice p 2 c,.int .i64 0,.int .i64 0],.string ⟨#[120,32,61,32,97,100,100,32,121,32,49]⟩] w fun e w'=>e=.returned (.bool true)/\Below w.heap.size w w' :=
 (lline_any ⟨1,4,[120],[],[⟨[121],0⟩,⟨[],1⟩],(0,0)⟩ (.slice p 2 c) [120,32,61,32,97,100,100,32,121,32,49] _ (by decide) (by simp) (by simp) h hE (by decide +kernel)).mono fun e w' h=>h
theorem lnl_2 (p:Option Addr) (c:Nat) (w:World) (h:SlG kAg (·<w.heap.size) w (.slice p 1 c) [⟨[105],0⟩]) (hE:PrE w):Calls Tryz.prog 59 #[.agg #[.int .u8 2,.int .u8 0,.string ⟨#[120]⟩,.string ⟨#[97]⟩,.slice p 1 c,.int .i64 0,.int .i64 0],.string ⟨#[120,32,61,32,108,111,97,100,32,97,32,105]⟩] w fun e w'=>e=.returned (.bool true)/\Below w.heap.size w w' :=
 (lline_any ⟨2,0,[120],[97],[⟨[105],0⟩],(0,0)⟩ (.slice p 1 c) [120,32,61,32,108,111,97,100,32,97,32,105] _ (by decide) (by simp) (by simp) h hE (by decide +kernel)).mono fun e w' h=>h
theorem lnl_3 (w:World) (hE:PrE w):Calls Tryz.prog 59 #[.agg #[.int .u8 3,.int .u8 0,.string ⟨#[]⟩,.string ⟨#[97]⟩,.slice (some ⟨w.heap.size,0,none⟩) 2 2,.int .i64 0,.int .i64 0],.string ⟨#[115,116,111,114,101,32,97,32,48,32,120]⟩] (w.alloc (.cells #[.string ⟨#[]⟩,.int .u64 0,.string ⟨#[120]⟩,.int .u64 0] 43)) fun e w'=>e=.returned (.bool true)/\Below w.heap.size w w' :=
 (lline_any ⟨3,0,[],[97],[⟨[],0⟩,⟨[120],0⟩],(0,0)⟩ (.slice (some ⟨w.heap.size,0,none⟩) 2 2) [115,116,111,114,101,32,97,32,48,32,120] _ (by decide) (by simp) (by simp) (ag_lit w [⟨[],0⟩,⟨[120],0⟩] (by simp) (by simp)) (hE.below (bA)) (by decide +kernel)).mono fun e w' h=>⟨h.1,(bA).trans (h.2.mono (by rw [sA];omega))⟩
theorem lnl_4 (w:World) (hE:PrE w):Calls Tryz.prog 59 #[.agg #[.int .u8 4,.int .u8 0,.string ⟨#[120]⟩,.string ⟨#[102]⟩,.slice none 0 0,.int .i64 0,.int .i64 0],.string ⟨#[120,32,61,32,99,97,108,108,32,102]⟩] w fun e w'=>e=.returned (.bool true)/\Below w.heap.size w w' :=
 (lline_any ⟨4,0,[120],[102],[],(0,0)⟩ (.slice none 0 0) [120,32,61,32,99,97,108,108,32,102] _ (by decide) (by simp) (by simp) SlG.nil hE (by decide +kernel)).mono fun e w' h=>h
theorem lnl_5 (p:Option Addr) (c:Nat) (w:World) (h:SlG kAg (·<w.heap.size) w (.slice p 2 c) [⟨[],1⟩,⟨[121],0⟩]) (hE:PrE w):Calls Tryz.prog 59 #[.agg #[.int .u8 4,.int .u8 0,.string ⟨#[120]⟩,.string ⟨#[102]⟩,.slice p 2 c,.int .i64 0,.int .i64 0],.string ⟨#[120,32,61,32,99,97,108,108,32,102,32,49,32,121]⟩] w fun e w'=>e=.returned (.bool true)/\Below w.heap.size w w' :=
 (lline_any ⟨4,0,[120],[102],[⟨[],1⟩,⟨[121],0⟩],(0,0)⟩ (.slice p 2 c) [120,32,61,32,99,97,108,108,32,102,32,49,32,121] _ (by decide) (by simp) (by simp) h hE (by decide +kernel)).mono fun e w' h=>h
theorem lnl_6 (w:World) (hE:PrE w):Calls Tryz.prog 59 #[.agg #[.int .u8 5,.int .u8 0,.string ⟨#[120]⟩,.string ⟨#[99]⟩,.slice none 0 0,.int .i64 0,.int .i64 0],.string ⟨#[105,110,32,120,32,99]⟩] w fun e w'=>e=.returned (.bool true)/\Below w.heap.size w w' :=
 (lline_any ⟨5,0,[120],[99],[],(0,0)⟩ (.slice none 0 0) [105,110,32,120,32,99] _ (by decide) (by simp) (by simp) SlG.nil hE (by decide +kernel)).mono fun e w' h=>h
theorem lnl_7 (p:Option Addr) (c:Nat) (w:World) (h:SlG kAg (·<w.heap.size) w (.slice p 1 c) [⟨[120],0⟩]) (hE:PrE w):Calls Tryz.prog 59 #[.agg #[.int .u8 6,.int .u8 0,.string ⟨#[]⟩,.string ⟨#[99]⟩,.slice p 1 c,.int .i64 0,.int .i64 0],.string ⟨#[111,117,116,32,99,32,120]⟩] w fun e w'=>e=.returned (.bool true)/\Below w.heap.size w w' :=
 (lline_any ⟨6,0,[],[99],[⟨[120],0⟩],(0,0)⟩ (.slice p 1 c) [111,117,116,32,99,32,120] _ (by decide) (by simp) (by simp) h hE (by decide +kernel)).mono fun e w' h=>h
theorem lnl_8 (p:Option Addr) (c:Nat) (w:World) (h:SlG kAg (·<w.heap.size) w (.slice p 1 c) [⟨[121],0⟩]) (hE:PrE w):Calls Tryz.prog 59 #[.agg #[.int .u8 7,.int .u8 0,.string ⟨#[120]⟩,.string ⟨#[115]⟩,.slice p 1 c,.int .i64 0,.int .i64 0],.string ⟨#[120,32,61,32,114,101,108,101,97,115,101,32,115,32,121]⟩] w fun e w'=>e=.returned (.bool true)/\Below w.heap.size w w' :=
 (lline_any ⟨7,0,[120],[115],[⟨[121],0⟩],(0,0)⟩ (.slice p 1 c) [120,32,61,32,114,101,108,101,97,115,101,32,115,32,121] _ (by decide) (by simp) (by simp) h hE (by decide +kernel)).mono fun e w' h=>h
theorem lnl_9 (w:World) (hE:PrE w):Calls Tryz.prog 59 #[.agg #[.int .u8 8,.int .u8 0,.string ⟨#[]⟩,.string ⟨#[76]⟩,.slice none 0 0,.int .i64 0,.int .i64 0],.string ⟨#[106,117,109,112,32,76]⟩] w fun e w'=>e=.returned (.bool true)/\Below w.heap.size w w' :=
 (lline_any ⟨8,0,[],[76],[],(0,0)⟩ (.slice none 0 0) [106,117,109,112,32,76] _ (by decide) (by simp) (by simp) SlG.nil hE (by decide +kernel)).mono fun e w' h=>h
theorem lnl_10 (p:Option Addr) (c:Nat) (w:World) (h:SlG kAg (·<w.heap.size) w (.slice p 1 c) [⟨[120],0⟩]) (hE:PrE w):Calls Tryz.prog 59 #[.agg #[.int .u8 9,.int .u8 0,.string ⟨#[]⟩,.string ⟨#[76]⟩,.slice p 1 c,.int .i64 0,.int .i64 0],.string ⟨#[105,102,32,120,32,76]⟩] w fun e w'=>e=.returned (.bool true)/\Below w.heap.size w w' :=
 (lline_any ⟨9,0,[],[76],[⟨[120],0⟩],(0,0)⟩ (.slice p 1 c) [105,102,32,120,32,76] _ (by decide) (by simp) (by simp) h hE (by decide +kernel)).mono fun e w' h=>h
theorem lnl_11 (w:World) (hE:PrE w):Calls Tryz.prog 59 #[.agg #[.int .u8 10,.int .u8 0,.string ⟨#[]⟩,.string ⟨#[76]⟩,.slice none 0 0,.int .i64 0,.int .i64 0],.string ⟨#[76,58]⟩] w fun e w'=>e=.returned (.bool true)/\Below w.heap.size w w' :=
 (lline_any ⟨10,0,[],[76],[],(0,0)⟩ (.slice none 0 0) [76,58] _ (by decide) (by simp) (by simp) SlG.nil hE (by decide +kernel)).mono fun e w' h=>h
theorem lnl_12 (w:World) (hE:PrE w):Calls Tryz.prog 59 #[.agg #[.int .u8 11,.int .u8 0,.string ⟨#[]⟩,.string ⟨#[]⟩,.slice none 0 0,.int .i64 0,.int .i64 0],.string ⟨#[104,97,108,116]⟩] w fun e w'=>e=.returned (.bool true)/\Below w.heap.size w w' :=
 (lline_any ⟨11,0,[],[],[],(0,0)⟩ (.slice none 0 0) [104,97,108,116] _ (by decide) (by simp) (by simp) SlG.nil hE (by decide +kernel)).mono fun e w' h=>h
theorem lnl_13 (p:Option Addr) (c:Nat) (w:World) (h:SlG kAg (·<w.heap.size) w (.slice p 1 c) [⟨[120],0⟩]) (hE:PrE w):Calls Tryz.prog 59 #[.agg #[.int .u8 12,.int .u8 0,.string ⟨#[]⟩,.string ⟨#[]⟩,.slice p 1 c,.int .i64 0,.int .i64 0],.string ⟨#[114,101,116,32,120]⟩] w fun e w'=>e=.returned (.bool true)/\Below w.heap.size w w' :=
 (lline_any ⟨12,0,[],[],[⟨[120],0⟩],(0,0)⟩ (.slice p 1 c) [114,101,116,32,120] _ (by decide) (by simp) (by simp) h hE (by decide +kernel)).mono fun e w' h=>h
theorem inl_0 (p:Option Addr) (c:Nat) (w:World) (h:SlG kAg (·<w.heap.size) w (.slice p 3 c) [⟨[120],0⟩,⟨[120],0⟩,⟨[120],0⟩]) (hE:PrE w):Calls Tryz.prog 61 #[.agg #[.int .u8 1,.int .u8 21,.string ⟨#[120]⟩,.string ⟨#[]⟩,.slice p 3 c,.int .i64 0,.int .i64 0]] w fun e w'=>e=.returned (.tuple #[.string ⟨#[]⟩,.int .i64 4])/\Below w.heap.size w w' :=
 (instr_f ⟨1,21,[120],[],[⟨[120],0⟩,⟨[120],0⟩,⟨[120],0⟩],(0,0)⟩ (.slice p 3 c) w (by decide) (by simp) (by simp) h hE).mono fun e w' h=>⟨h.1.trans (by rw [show instrM ⟨1,21,[120],[],[⟨[120],0⟩,⟨[120],0⟩,⟨[120],0⟩],(0,0)⟩=([],4) from by decide +kernel]),h.2⟩
theorem inl_1 (w:World) (hE:PrE w):Calls Tryz.prog 61 #[.agg #[.int .u8 13,.int .u8 0,.string ⟨#[]⟩,.string ⟨#[]⟩,.slice none 0 0,.int .i64 0,.int .i64 0]] w fun e w'=>e=.returned (.tuple #[.string ⟨#[]⟩,.int .i64 4])/\Below w.heap.size w w' :=
 (instr_f ⟨13,0,[],[],[],(0,0)⟩ (.slice none 0 0) w (by decide) (by simp) (by simp) SlG.nil hE).mono fun e w' h=>⟨h.1.trans (by rw [show instrM ⟨13,0,[],[],[],(0,0)⟩=([],4) from by decide +kernel]),h.2⟩
theorem inl_2 (p:Option Addr) (c:Nat) (w:World) (h:SlG kAg (·<w.heap.size) w (.slice p 1 c) [⟨[120],0⟩]) (hE:PrE w):Calls Tryz.prog 61 #[.agg #[.int .u8 0,.int .u8 0,.string ⟨#[]⟩,.string ⟨#[]⟩,.slice p 1 c,.int .i64 0,.int .i64 0]] w fun e w'=>e=.returned (.tuple #[.string ⟨#[]⟩,.int .i64 4])/\Below w.heap.size w w' :=
 (instr_f ⟨0,0,[],[],[⟨[120],0⟩],(0,0)⟩ (.slice p 1 c) w (by decide) (by simp) (by simp) h hE).mono fun e w' h=>⟨h.1.trans (by rw [show instrM ⟨0,0,[],[],[⟨[120],0⟩],(0,0)⟩=([],4) from by decide +kernel]),h.2⟩
end Go.Proofs.YtoofbgoeipijcaaGreatDoor
