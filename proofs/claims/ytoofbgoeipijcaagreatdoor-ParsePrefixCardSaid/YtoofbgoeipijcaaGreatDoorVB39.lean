/-
 A part.
-/
import Derived.Test.YtoofbgoeipijcaaGreatDoorVSPnQ
import Derived.Lib.ItoaMem
namespace Go.Proofs.YtoofbgoeipijcaaGreatDoor
set_option maxRecDepth 100000
set_option maxHeartbeats 4000000
set_option linter.all false
open Go.RowKit Go.Shelf
attribute [local go_sem] Oper.semAt_some
def parseX (s:Bs):PE Pg :=
 if 65536<s.length then .error ((1,1),5) else
 match rt s 1 1 [] [] false false with
 | .error (L,C) => .error (((L:Int),(C:Int)),4)
 | .ok ls=>do
  let st <- linesP ps0P ls
  needM (decide (st.inn=3)) (endOf s) 4
  needM (decide ((checkM st.p).2=0)) (checkM st.p).1 (checkM st.p).2
  pure st.p
theorem parseE_x (s:Bs):parseE s=parseX s:=by
 unfold parseE parseX
 rw [rt_tok]
 by_cases h:65536<s.length
 ·rw [if_pos h,if_pos h]
 ·rw [if_neg h,if_neg h];cases tok s <;> rfl
def wantE:Pg:=⟨2,[[99]],[],[],[⟨5,0,[120],[99],[],(4,1)⟩,⟨6,0,[],[99],[⟨[120],0⟩],(5,1)⟩]⟩
def posE (s:Bs):(Int × Int) × Int:=match parseX s with | .ok p=>((0,0),0) | .error f=>f
theorem pos_of {s:Bs} {f:(Int × Int) × Int} (h:posE s=f):(parseM s).2=f:=by
 unfold parseM
 rw [parseE_x]
 unfold posE at h
 cases hx:parseX s with
 | error e=>rw [hx] at h;exact h
 | ok p=>rw [hx] at h;exact h
def exB (s:Bs) (p:Pg):Bool:=match parseX s with | .ok q=>decide (q=p) | .error _=>false
theorem ok_of {s:Bs} {p:Pg} (h:exB s p=true):parseE s=.ok p:=by
 rw [parseE_x]
 unfold exB at h
 cases hx:parseX s with
 | error e=>rw [hx] at h;cases h
 | ok q=>rw [hx] at h;rw [of_decide_eq_true h]
theorem ex_want:parseE [119,105,100,116,104,32,50,10,99,104,97,110,32,99,10,109,97,105,110,10,105,110,32,120,32,99,10,111,117,116,32,99,32,120,10,101,110,100]=.ok wantE:=ok_of (by decide +kernel)
theorem ex_rep0:Lib.replaceAll [119,105,100,116,104,32,48,124,109,97,105,110,124,101,110,100] [124] [10]=[119,105,100,116,104,32,48,10,109,97,105,110,10,101,110,100]:=by decide +kernel
theorem ex_pos0:(parseM [119,105,100,116,104,32,48,10,109,97,105,110,10,101,110,100]).2=((1,7),3):=pos_of (by decide +kernel)
theorem ex_rep1:Lib.replaceAll [119,105,100,116,104,32,49,124,109,97,105,110] [124] [10]=[119,105,100,116,104,32,49,10,109,97,105,110]:=by decide +kernel
theorem ex_pos1:(parseM [119,105,100,116,104,32,49,10,109,97,105,110]).2=((2,5),4):=pos_of (by decide +kernel)
theorem ex_rep2:Lib.replaceAll [119,105,100,116,104,32,49,124,99,104,97,110,32,99,124,99,104,97,110,32,99,124,109,97,105,110,124,101,110,100] [124] [10]=[119,105,100,116,104,32,49,10,99,104,97,110,32,99,10,99,104,97,110,32,99,10,109,97,105,110,10,101,110,100]:=by decide +kernel
theorem ex_pos2:(parseM [119,105,100,116,104,32,49,10,99,104,97,110,32,99,10,99,104,97,110,32,99,10,109,97,105,110,10,101,110,100]).2=((3,6),8):=pos_of (by decide +kernel)
theorem ex_rep3:Lib.replaceAll [119,105,100,116,104,32,49,124,109,97,105,110,124,120,32,61,32,108,111,97,100,32,97,32,49,124,101,110,100] [124] [10]=[119,105,100,116,104,32,49,10,109,97,105,110,10,120,32,61,32,108,111,97,100,32,97,32,49,10,101,110,100]:=by decide +kernel
theorem ex_pos3:(parseM [119,105,100,116,104,32,49,10,109,97,105,110,10,120,32,61,32,108,111,97,100,32,97,32,49,10,101,110,100]).2=((3,10),6):=pos_of (by decide +kernel)
theorem ex_rep4:Lib.replaceAll [119,105,100,116,104,32,49,124,109,97,105,110,124,106,117,109,112,32,76,124,101,110,100] [124] [10]=[119,105,100,116,104,32,49,10,109,97,105,110,10,106,117,109,112,32,76,10,101,110,100]:=by decide +kernel
theorem ex_pos4:(parseM [119,105,100,116,104,32,49,10,109,97,105,110,10,106,117,109,112,32,76,10,101,110,100]).2=((3,1),6):=pos_of (by decide +kernel)
theorem ex_rep5:Lib.replaceAll [119,105,100,116,104,32,49,124,109,97,105,110,124,120,32,61,124,101,110,100] [124] [10]=[119,105,100,116,104,32,49,10,109,97,105,110,10,120,32,61,10,101,110,100]:=by decide +kernel
theorem ex_pos5:(parseM [119,105,100,116,104,32,49,10,109,97,105,110,10,120,32,61,10,101,110,100]).2=((3,1),4):=pos_of (by decide +kernel)
theorem ex_rep6:Lib.replaceAll [119,105,100,116,104,32,49,124,102,117,110,99,32,102,124,120,32,61,32,99,97,108,108,32,102,124,101,110,100,124,109,97,105,110,124,101,110,100] [124] [10]=[119,105,100,116,104,32,49,10,102,117,110,99,32,102,10,120,32,61,32,99,97,108,108,32,102,10,101,110,100,10,109,97,105,110,10,101,110,100]:=by decide +kernel
theorem ex_pos6:(parseM [119,105,100,116,104,32,49,10,102,117,110,99,32,102,10,120,32,61,32,99,97,108,108,32,102,10,101,110,100,10,109,97,105,110,10,101,110,100]).2=((2,1),9):=pos_of (by decide +kernel)
theorem ex_rep7:Lib.replaceAll [119,105,100,116,104,32,49,124,109,97,105,110,124,120,32,61,32,97,100,100,32,49,124,101,110,100] [124] [10]=[119,105,100,116,104,32,49,10,109,97,105,110,10,120,32,61,32,97,100,100,32,49,10,101,110,100]:=by decide +kernel
theorem ex_pos7:(parseM [119,105,100,116,104,32,49,10,109,97,105,110,10,120,32,61,32,97,100,100,32,49,10,101,110,100]).2=((3,1),4):=pos_of (by decide +kernel)
theorem ex_rep8:Lib.replaceAll [119,105,100,116,104,32,49,124,109,97,105,110,124,120,32,61,32,97,100,100,32,49,32,50,32,51,124,101,110,100] [124] [10]=[119,105,100,116,104,32,49,10,109,97,105,110,10,120,32,61,32,97,100,100,32,49,32,50,32,51,10,101,110,100]:=by decide +kernel
theorem ex_pos8:(parseM [119,105,100,116,104,32,49,10,109,97,105,110,10,120,32,61,32,97,100,100,32,49,32,50,32,51,10,101,110,100]).2=((3,13),4):=pos_of (by decide +kernel)
theorem ex_rep9:Lib.replaceAll [101,110,100,124,101,110,100] [124] [10]=[101,110,100,10,101,110,100]:=by decide +kernel
theorem ex_pos9:(parseM [101,110,100,10,101,110,100]).2=((1,1),4):=pos_of (by decide +kernel)
theorem ex_rep10:Lib.replaceAll [] [124] [10]=[]:=by decide +kernel
theorem ex_pos10:(parseM []).2=((1,1),4):=pos_of (by decide +kernel)
theorem below_drewN (w:World) (n:Nat):Below w.heap.size w (w.drewN n):=⟨rfl,rfl,rfl,Nat.le_refl _,fun _ _=>rfl⟩
theorem eqargs_same (l:List Ag) (va vb:Value) (R R':Nat->Prop) (w:World) (ha:SlG kAg R w va l) (hb:SlG kAg R' w vb l) :
  Calls Tryz.prog 99 #[va,vb] w fun e w'=>e=.returned (.bool true)/\∃ n,w.drewN n=w':=by
 obtain ⟨pa,ca,rfl⟩:=ha.slc
 obtain ⟨pb,cb,rfl⟩:=hb.slc
 have HA:=hid ha;have HB:=hid hb
 clear ha hb
 go_enter Tryz.func99,Tryz.ntmps99
 go_wp2
 go_loopw [4,5] (fun rv iv wr=>∃ (k n:Nat),k<=l.length/\rv=.bool false/\iv=.int .i64 k/\wr=w.drewN n) (fun _ iv _=>l.length - (intOf iv).toNat)
 case atStart=>exact ⟨0,0,Nat.zero_le _,rfl,rfl,rfl⟩
 case round =>
  obtain ⟨k,n,hk,rfl,rfl,rfl⟩:=hrel
  by_cases hlt:k<l.length
  ·obtain ⟨b1,o1,rfl,hR1,hc1⟩:=ag_at HA.out (by omega:0<l.length)
   obtain ⟨b2,o2,rfl,hR2,hc2⟩:=ag_at HB.out (by omega:0<l.length)
   obtain ⟨c0,c1⟩:=hc1 k hlt
   obtain ⟨d0,d1⟩:=hc2 k hlt
   have HLT:=hid hlt
   clear hc1 hc2
   generalize l[k]=x at *
   clear hlt
   have hlt:=HLT.out
   go_wp2_with fail
   go_quiet (fail)
   go_wp2
   go_roundw
   case rel=>exact ⟨k+1,n+nq,HLT.out,by first | rfl | trivial,by rw [wrap_next HLT.out HA.len],by first | rfl | rw [World.drewN_drewN]⟩
   case measure=>exact meas_next HLT.out HA.len
  ·obtain rfl:k=l.length:=by omega
   clear hlt
   go_wp2
   go_ret
   exact ⟨rfl,n,rfl⟩
theorem eqinstr_same (x:In) (va vb:Value) (w:World) (ha:SlG kAg (·<w.heap.size) w va x.args) (hb:SlG kAg (·<w.heap.size) w vb x.args) :
  Calls Tryz.prog 64 #[.agg #[.int .u8 (x.kind:Int),.int .u8 (x.op:Int),.string ⟨x.dst.toArray⟩,.string ⟨x.nm.toArray⟩,va,.int .i64 x.pos.1,.int .i64 x.pos.2],.agg #[.int .u8 (x.kind:Int),.int .u8 (x.op:Int),.string ⟨x.dst.toArray⟩,.string ⟨x.nm.toArray⟩,vb,.int .i64 x.pos.1,.int .i64 x.pos.2]] w fun e w'=>e=.returned (.bool true)/\Below w.heap.size w w':=by
 obtain ⟨pa,ca,rfl⟩:=ha.slc
 obtain ⟨pb,cb,rfl⟩:=hb.slc
 have HA:=hid ha;have HB:=hid hb
 clear ha hb
 go_enter Tryz.func64,Tryz.ntmps64
 go_upto_region 1 with fail
 obtain ⟨w2,hw2⟩:∃ W,(w.alloc (.cells #[.int .u8 (x.kind:Int),.int .u8 (x.op:Int),.string ⟨x.dst.toArray⟩,.string ⟨x.nm.toArray⟩,.slice pa x.args.length ca,.int .i64 x.pos.1,.int .i64 x.pos.2] 41)).alloc (.cells #[.int .u8 (x.kind:Int),.int .u8 (x.op:Int),.string ⟨x.dst.toArray⟩,.string ⟨x.nm.toArray⟩,.slice pb x.args.length cb,.int .i64 x.pos.1,.int .i64 x.pos.2] 41)=W:=⟨_,rfl⟩
 have HB2:=hid (show Below w.heap.size w w2 from by rw [<- hw2];exact (bA).alloc (by rw [sA];omega) _)
 have HX:=hid (show BxL 41 w.heap.size [.int .u8 (x.kind:Int),.int .u8 (x.op:Int),.string ⟨x.dst.toArray⟩,.string ⟨x.nm.toArray⟩,.slice pa x.args.length ca,.int .i64 x.pos.1,.int .i64 x.pos.2] w2 from by rw [<- hw2];exact (BxL.new _ _ _).al _)
 have HY:=hid (show BxL 41 (w.heap.size+1) [.int .u8 (x.kind:Int),.int .u8 (x.op:Int),.string ⟨x.dst.toArray⟩,.string ⟨x.nm.toArray⟩,.slice pb x.args.length cb,.int .i64 x.pos.1,.int .i64 x.pos.2] w2 from by rw [<- hw2];have:=BxL.new 41 (w.alloc (.cells #[.int .u8 (x.kind:Int),.int .u8 (x.op:Int),.string ⟨x.dst.toArray⟩,.string ⟨x.nm.toArray⟩,.slice pa x.args.length ca,.int .i64 x.pos.1,.int .i64 x.pos.2] 41)) [.int .u8 (x.kind:Int),.int .u8 (x.op:Int),.string ⟨x.dst.toArray⟩,.string ⟨x.nm.toArray⟩,.slice pb x.args.length cb,.int .i64 x.pos.1,.int .i64 x.pos.2];rw [sA] at this;exact this)
 rw [hw2]
 clear hw2
 have c0:∀ m,(w2.drewN m).cell? ⟨w.heap.size,0,none⟩=some (.int .u8 (x.kind:Int)):=fun m=>HX.at 0 rfl
 have c1:∀ m,(w2.drewN m).cell? ⟨w.heap.size,1,none⟩=some (.int .u8 (x.op:Int)):=fun m=>HX.at 1 rfl
 have c2:∀ m,(w2.drewN m).cell? ⟨w.heap.size,2,none⟩=some (.string ⟨x.dst.toArray⟩):=fun m=>HX.at 2 rfl
 have c3:∀ m,(w2.drewN m).cell? ⟨w.heap.size,3,none⟩=some (.string ⟨x.nm.toArray⟩):=fun m=>HX.at 3 rfl
 have c4:∀ m,(w2.drewN m).cell? ⟨w.heap.size,4,none⟩=some (.slice pa x.args.length ca):=fun m=>HX.at 4 rfl
 have c5:∀ m,(w2.drewN m).cell? ⟨w.heap.size,5,none⟩=some (.int .i64 x.pos.1):=fun m=>HX.at 5 rfl
 have c6:∀ m,(w2.drewN m).cell? ⟨w.heap.size,6,none⟩=some (.int .i64 x.pos.2):=fun m=>HX.at 6 rfl
 have d0:∀ m,(w2.drewN m).cell? ⟨w.heap.size+1,0,none⟩=some (.int .u8 (x.kind:Int)):=fun m=>HY.at 0 rfl
 have d1:∀ m,(w2.drewN m).cell? ⟨w.heap.size+1,1,none⟩=some (.int .u8 (x.op:Int)):=fun m=>HY.at 1 rfl
 have d2:∀ m,(w2.drewN m).cell? ⟨w.heap.size+1,2,none⟩=some (.string ⟨x.dst.toArray⟩):=fun m=>HY.at 2 rfl
 have d3:∀ m,(w2.drewN m).cell? ⟨w.heap.size+1,3,none⟩=some (.string ⟨x.nm.toArray⟩):=fun m=>HY.at 3 rfl
 have d4:∀ m,(w2.drewN m).cell? ⟨w.heap.size+1,4,none⟩=some (.slice pb x.args.length cb):=fun m=>HY.at 4 rfl
 have d5:∀ m,(w2.drewN m).cell? ⟨w.heap.size+1,5,none⟩=some (.int .i64 x.pos.1):=fun m=>HY.at 5 rfl
 have d6:∀ m,(w2.drewN m).cell? ⟨w.heap.size+1,6,none⟩=some (.int .i64 x.pos.2):=fun m=>HY.at 6 rfl
 have p0:=c0 0
 have q0:=d0 0
 rw [show w2.drewN 0=w2 from rfl] at p0 q0
 have p1:=c1 0
 have q1:=d1 0
 rw [show w2.drewN 0=w2 from rfl] at p1 q1
 have p2:=c2 0
 have q2:=d2 0
 rw [show w2.drewN 0=w2 from rfl] at p2 q2
 have p3:=c3 0
 have q3:=d3 0
 rw [show w2.drewN 0=w2 from rfl] at p3 q3
 have p4:=c4 0
 have q4:=d4 0
 rw [show w2.drewN 0=w2 from rfl] at p4 q4
 have p5:=c5 0
 have q5:=d5 0
 rw [show w2.drewN 0=w2 from rfl] at p5 q5
 have p6:=c6 0
 have q6:=d6 0
 rw [show w2.drewN 0=w2 from rfl] at p6 q6
 go_wp2_with (go_at_call 99;(refine (eqargs_same x.args _ _ _ _ _ (HA.out.below HB2.out) (HB.out.below HB2.out)).mono ?_);rintro e w3 ⟨rfl,n3,rfl⟩)
 go_ret
 exact ⟨rfl,HB2.trans ((below_drewN w2 n3).mono HB2.size)⟩
open Go.RowKit Go.Shelf Go.Lib Go.Sort
end Go.Proofs.YtoofbgoeipijcaaGreatDoor
