/-
 A part.
-/
import Derived.Test.YtoofbgoeipijcaaGreatDoorVSPqA
namespace Go.Proofs.YtoofbgoeipijcaaGreatDoor
set_option linter.all false
open Go.RowKit Go.Shelf
attribute [local go_sem] Oper.semAt_some
def pEx:Pg:=⟨2,[[99]],[⟨[97],3⟩],[⟨[102],[[112]],[⟨12,0,[],[],[⟨[112],0⟩],(0,0)⟩],(0,0)⟩],[⟨4,0,[120],[102],[⟨[],1⟩],(0,0)⟩]⟩
def tEx:Bs:=[119,105,100,116,104,32,50,10,99,104,97,110,32,99,10,97,114,114,97,121,32,97,32,51,10,102,117,110,99,32,102,32,112,10,114,101,116,32,112,10,101,110,100,10,109,97,105,110,10,120,32,61,32,99,97,108,108,32,102,32,49,10,101,110,100,10]
theorem ex_print:printM pEx=(tEx,0):=by decide +kernel
theorem ex_ok:PgOk pEx:=⟨by decide,by decide⟩
theorem ex_num:NumP pEx:=⟨by unfold NumI NumA;decide,by unfold NumI NumA;decide⟩
set_option maxRecDepth 100000 in
set_option maxHeartbeats 8000000 in
theorem awake24_any (w:World) (hE:PrE w):Calls Tryz.prog 17 #[] w fun e w'=>e=.returned (.bool true)/\Below w.heap.size w w':=by
 have HE:=hid hE
 have HB:=hid (Below.refl w.heap.size w)
 clear hE
 go_enter Tryz.func17,Tryz.ntmps17
 go_upto_region 8 with (first
  | (go_at_call 60;(first | with_reducible refine (ofl_0 _).mono ?_ | with_reducible refine (ofl_1 _).mono ?_ | with_reducible refine (ofl_2 _).mono ?_ | with_reducible refine (ofl_3 _).mono ?_ | with_reducible refine (ofl_4 _).mono ?_ | with_reducible refine (ofl_5 _).mono ?_);rintro e wn ⟨p,c,rfl,ha,hb⟩;have HE:=hid (HE.out.below hb);have HB:=hid (HB.out.trans (hb.mono HB.out.size));have HA:=hid ha;clear ha hb)
  | (go_at_call 59;(first | with_reducible refine (lnl_0 _ HE.out).mono ?_ | with_reducible refine (lnl_1 _ _ _ HA.out HE.out).mono ?_ | with_reducible refine (lnl_2 _ _ _ HA.out HE.out).mono ?_ | with_reducible refine (lnl_3 _ HE.out).mono ?_ | with_reducible refine (lnl_4 _ HE.out).mono ?_ | with_reducible refine (lnl_5 _ _ _ HA.out HE.out).mono ?_ | with_reducible refine (lnl_6 _ HE.out).mono ?_ | with_reducible refine (lnl_7 _ _ _ HA.out HE.out).mono ?_ | with_reducible refine (lnl_8 _ _ _ HA.out HE.out).mono ?_ | with_reducible refine (lnl_9 _ HE.out).mono ?_ | with_reducible refine (lnl_10 _ _ _ HA.out HE.out).mono ?_ | with_reducible refine (lnl_11 _ HE.out).mono ?_ | with_reducible refine (lnl_12 _ HE.out).mono ?_ | with_reducible refine (lnl_13 _ _ _ HA.out HE.out).mono ?_);rintro e wn ⟨rfl,hb⟩;have HE:=hid (HE.out.below hb);have HB:=hid (HB.out.trans (hb.mono HB.out.size));clear hb)
  | (go_at_call 61;(first | with_reducible refine (inl_0 _ _ _ HA.out HE.out).mono ?_ | with_reducible refine (inl_1 _ HE.out).mono ?_ | with_reducible refine (inl_2 _ _ _ HA.out HE.out).mono ?_);rintro e wn ⟨rfl,hb⟩;have HE:=hid (HE.out.below hb);have HB:=hid (HB.out.trans (hb.mono HB.out.size));clear hb))
 generalize wn=W7 at *
 go_upto_region 9 with (first
  | (go_at_call 60;with_reducible refine (ofl_6s _ _ (by simp only [sA])).mono ?_;rintro e wa ⟨p,c,rfl,ha,hb⟩;have HC:=hid (show BxL 9 W7.heap.size [.string ⟨#[99]⟩] wa from (((BxL.new 9 W7 [.string ⟨#[99]⟩]).al (.cells #[.string ⟨#[97]⟩,.int .i64 3] 87)).al (.cells #[.string ⟨#[112]⟩] 9)).bel hb);have HR:=hid (show BxL 87 (W7.heap.size+1) [.string ⟨#[97]⟩,.int .i64 3] wa from (by have h9:=BxL.new 87 (W7.alloc (.cells #[.string ⟨#[99]⟩] 9)) [.string ⟨#[97]⟩,.int .i64 3];rw [sA] at h9;exact (h9.al (.cells #[.string ⟨#[112]⟩] 9)).bel hb));have HQ:=hid (show BxL 9 (W7.heap.size+1+1) [.string ⟨#[112]⟩] wa from (by have h9:=BxL.new 9 ((W7.alloc (.cells #[.string ⟨#[99]⟩] 9)).alloc (.cells #[.string ⟨#[97]⟩,.int .i64 3] 87)) [.string ⟨#[112]⟩];rw [sA,sA] at h9;exact h9.bel hb));have hb1:Below W7.heap.size W7 wa:=(((bA).alloc (by rw [sA];omega) _).alloc (by rw [sA,sA];omega) _).trans (hb.mono (by rw [sA,sA,sA];omega));have HE:=hid (HE.out.below hb1);have HB:=hid (HB.out.trans (hb1.mono HB.out.size));have HA:=hid ha;clear ha hb hb1)
  | (go_at_call 60;with_reducible refine (ofl_7s _ _ (by simp only [sA])).mono ?_;rintro e wb ⟨p2,c2,rfl,ha,hb⟩;have hb1:Below wa.heap.size wa wb:=((bA).alloc (by rw [sA];omega) _).trans (hb.mono (by rw [sA,sA];omega));have HC:=hid (HC.out.bel hb1);have HR:=hid (HR.out.bel hb1);have HQ:=hid (HQ.out.bel hb1);have HK:=hid (show BxL 41 wa.heap.size [.int .u8 12,.int .u8 0,.string ⟨#[]⟩,.string ⟨#[]⟩,.slice p 1 c,.int .i64 0,.int .i64 0] wb from ((BxL.new 41 wa [.int .u8 12,.int .u8 0,.string ⟨#[]⟩,.string ⟨#[]⟩,.slice p 1 c,.int .i64 0,.int .i64 0]).al (.cells #[.string ⟨#[102]⟩,.slice (some ⟨W7.heap.size+1+1,0,none⟩) 1 1,.slice (some ⟨wa.heap.size,0,none⟩) 1 1,.int .i64 0,.int .i64 0] 74)).bel hb);have HF:=hid (show BxL 74 (wa.heap.size+1) [.string ⟨#[102]⟩,.slice (some ⟨W7.heap.size+1+1,0,none⟩) 1 1,.slice (some ⟨wa.heap.size,0,none⟩) 1 1,.int .i64 0,.int .i64 0] wb from (by have h9:=BxL.new 74 (wa.alloc (.cells #[.int .u8 12,.int .u8 0,.string ⟨#[]⟩,.string ⟨#[]⟩,.slice p 1 c,.int .i64 0,.int .i64 0] 41)) [.string ⟨#[102]⟩,.slice (some ⟨W7.heap.size+1+1,0,none⟩) 1 1,.slice (some ⟨wa.heap.size,0,none⟩) 1 1,.int .i64 0,.int .i64 0];rw [sA] at h9;exact h9.bel hb));have HE:=hid (HE.out.below hb1);have HB:=hid (HB.out.trans (hb1.mono HB.out.size));have HA:=hid (HA.out.below hb1);have HA2:=hid ha;clear ha hb hb1))
 obtain ⟨wz,hwz⟩:∃ W,(wb.alloc (.cells #[.int .u8 4,.int .u8 0,.string ⟨#[120]⟩,.string ⟨#[102]⟩,.slice p2 1 c2,.int .i64 0,.int .i64 0] 41)).alloc (.cells #[.int .i64 2,.slice (some ⟨W7.heap.size,0,none⟩) 1 1,.slice (some ⟨W7.heap.size+1,0,none⟩) 1 1,.slice (some ⟨wa.heap.size+1,0,none⟩) 1 1,.slice (some ⟨wb.heap.size,0,none⟩) 1 1] 27)=W:=⟨_,rfl⟩
 have hbz:Below wb.heap.size wb wz:=by rw [<- hwz];exact (bA).alloc (by rw [sA];omega) _
 have HMZ:=hid (show BxL 41 wb.heap.size [.int .u8 4,.int .u8 0,.string ⟨#[120]⟩,.string ⟨#[102]⟩,.slice p2 1 c2,.int .i64 0,.int .i64 0] wz from by rw [<- hwz];exact (BxL.new 41 wb [.int .u8 4,.int .u8 0,.string ⟨#[120]⟩,.string ⟨#[102]⟩,.slice p2 1 c2,.int .i64 0,.int .i64 0]).al _)
 have hgz:BxL 27 (wb.heap.size+1) [.int .i64 2,.slice (some ⟨W7.heap.size,0,none⟩) 1 1,.slice (some ⟨W7.heap.size+1,0,none⟩) 1 1,.slice (some ⟨wa.heap.size+1,0,none⟩) 1 1,.slice (some ⟨wb.heap.size,0,none⟩) 1 1] wz:=by rw [<- hwz];have h9:=BxL.new 27 (wb.alloc (.cells #[.int .u8 4,.int .u8 0,.string ⟨#[120]⟩,.string ⟨#[102]⟩,.slice p2 1 c2,.int .i64 0,.int .i64 0] 41)) [.int .i64 2,.slice (some ⟨W7.heap.size,0,none⟩) 1 1,.slice (some ⟨W7.heap.size+1,0,none⟩) 1 1,.slice (some ⟨wa.heap.size+1,0,none⟩) 1 1,.slice (some ⟨wb.heap.size,0,none⟩) 1 1];rw [sA] at h9;exact h9
 have HEZ:=hid (HE.below hbz)
 have HBZ:=hid (HB.trans (hbz.mono HB.size))
 have HCZ:=hid (HC.bel hbz);have HRZ:=hid (HR.bel hbz);have HQZ:=hid (HQ.bel hbz);have HKZ:=hid (HK.bel hbz);have HFZ:=hid (HF.bel hbz)
 have HAZ:=hid (HA.below hbz);have HA2Z:=hid (HA2.below hbz)
 have HPG:=hid (show PgV (·<wz.heap.size) wz (.slice (some ⟨W7.heap.size,0,none⟩) 1 1) (.slice (some ⟨W7.heap.size+1,0,none⟩) 1 1) (.slice (some ⟨wa.heap.size+1,0,none⟩) 1 1) (.slice (some ⟨wb.heap.size,0,none⟩) 1 1) pEx from
  ⟨SlG.box HCZ.out rfl HCZ.lt,SlG.box HRZ.out rfl HRZ.lt,SlG.box HFZ.out ⟨_,_,rfl,SlG.box HQZ.out rfl HQZ.lt,SlG.box HKZ.out ⟨_,rfl,HAZ.out⟩ HKZ.lt⟩ HFZ.lt,SlG.box HMZ.out ⟨_,rfl,HA2Z.out⟩ HMZ.lt⟩)
 obtain ⟨z0,z1,z2,z3,z4⟩:=hgz.p5
 rw [hwz]
 clear hwz hbz hgz
 go_wp2_with (go_at_call 14;(refine (print_any pEx _ _ _ _ _ HEZ.out HPG.out ex_ok ex_num).mono ?_);rintro e we ⟨rfl,hb⟩;rw [ex_print];have HBE:=hid (HBZ.out.trans (hb.mono HBZ.out.size));clear hb)
 trace_state
 go_ret
 exact ⟨rfl,HBE.out⟩
end Go.Proofs.YtoofbgoeipijcaaGreatDoor
