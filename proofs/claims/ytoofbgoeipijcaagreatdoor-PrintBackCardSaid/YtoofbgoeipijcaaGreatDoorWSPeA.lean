/-
 A part.
-/
import Derived.Test.YtoofbgoeipijcaaGreatDoorWSPrX
namespace Go.Proofs.YtoofbgoeipijcaaGreatDoor
set_option maxRecDepth 100000
set_option maxHeartbeats 4000000
set_option linter.all false
open Go.RowKit Go.Shelf
attribute [local go_sem] Oper.semAt_some
theorem eqargs_any (a b:List Ag) (va vb:Value) (R R':Nat->Prop) (w:World) (ha:SlG kAg R w va a) (hb:SlG kAg R' w vb b) :
  Calls Tryz.prog 116 #[va,vb] w fun e w'=>e=.returned (.bool (decide (a=b)))/\∃ n,w.drewN n=w':=by
 obtain ⟨pa,ca,rfl⟩:=ha.slc
 obtain ⟨pb,cb,rfl⟩:=hb.slc
 have HA:=hid ha;have HB:=hid hb
 clear ha hb
 obtain ⟨r,hr⟩:∃ r,decide (a=b)=r:=⟨_,rfl⟩
 rw [hr]
 have HR:=hid hr
 clear hr
 by_cases hl:a.length=b.length
 ·have hne:((a.length:Int) == (b.length:Int))=true:=by simp;omega
  go_enter Tryz.func116,Tryz.ntmps116
  go_wp2
  go_loopw [4,13] (fun rv iv wr=>∃ (k n:Nat),k<=a.length/\rv=.bool false/\iv=.int .i64 k/\a.take k=b.take k/\w.drewN n=wr) (fun _ iv _=>a.length - (intOf iv).toNat)
  case atStart=>exact ⟨0,0,Nat.zero_le _,rfl,rfl,rfl,rfl⟩
  case round =>
   obtain ⟨k,n,hk,rfl,rfl,htk,rfl⟩:=hrel
   by_cases hlt:k<a.length
   ·have hlb:k<b.length:=by omega
    obtain ⟨b1,o1,rfl,hR1,hc1⟩:=ag_at HA.out (by omega:0<a.length)
    obtain ⟨b2,o2,rfl,hR2,hc2⟩:=ag_at HB.out (by omega:0<b.length)
    obtain ⟨c0,c1⟩:=hc1 k hlt
    obtain ⟨d0,d1⟩:=hc2 k hlb
    have HT:=hid (fun he=>take_nextL htk hlt hlb he)
    have HN:=hid (fun he=>ne_atL hlt hlb he)
    have HLT:=hid hlt
    clear hc1 hc2 htk hR1 hR2
    generalize a[k]=x at *
    generalize b[k]=y at *
    by_cases hxy:x=y
    ·have HT':=hid (HT.out hxy)
     clear HT HN
     subst hxy
     go_wp2_with fail
     go_quiet (fail)
     go_wp2
     go_roundw
     case rel=>exact ⟨k+1,n+nq,HLT.out,by first | rfl | trivial,by rw [wrap_next HLT.out HA.len],HT'.out,by first | rfl | rw [World.drewN_drewN]⟩
     case measure=>exact meas_next HLT.out HA.len
    ·have HB2:=hid (show r=false from by rw [<- HR.out];exact decide_eq_false (HN.out hxy))
     clear HT HN
     obtain ⟨x0,x1⟩:=x
     obtain ⟨y0,y1⟩:=y
     simp only at c0 c1 d0 d1
     by_cases h0:x0=y0
     ·subst h0
      have hwd:((x1:Int) == (y1:Int))=false:=by
       have h1:x1 ≠ y1:=fun e=>hxy (by rw [e])
       rw [beq_eq_false_iff_ne];omega
      clear hxy
      go_wp2_with fail
      go_quiet (fail)
      go_wp2
      go_ret
      exact ⟨by rw [HB2.out];rfl,n+nq,by first | rfl | rw [World.drewN_drewN]⟩
     ·have hwd:=str_neF h0
      clear hxy h0
      go_wp2_with fail
      go_quiet (fail)
      go_wp2
      go_ret
      exact ⟨by rw [HB2.out];rfl,n+nq,by first | rfl | rw [World.drewN_drewN]⟩
   ·obtain rfl:k=a.length:=by omega
    have HB2:=hid (show r=true from by rw [<- HR.out];exact decide_eq_true (eq_fullL htk (by omega)))
    clear htk hlt
    go_wp2
    go_ret
    exact ⟨by rw [HB2.out];rfl,n,rfl⟩
 ·have hne:((a.length:Int) == (b.length:Int))=false:=by simp;omega
  have HB2:=hid (show r=false from by rw [<- HR.out];exact decide_eq_false (fun e=>hl (by rw [e])))
  clear hl
  go_enter Tryz.func116,Tryz.ntmps116
  go_wp2
  go_ret
  exact ⟨by rw [HB2.out];rfl,0,rfl⟩
theorem eqarrs_any (a b:List Ar) (va vb:Value) (R R':Nat->Prop) (w:World) (ha:SlG kAr R w va a) (hb:SlG kAr R' w vb b) :
  Calls Tryz.prog 76 #[va,vb] w fun e w'=>e=.returned (.bool (decide (a=b)))/\∃ n,w.drewN n=w':=by
 obtain ⟨pa,ca,rfl⟩:=ha.slc
 obtain ⟨pb,cb,rfl⟩:=hb.slc
 have HA:=hid ha;have HB:=hid hb
 clear ha hb
 obtain ⟨r,hr⟩:∃ r,decide (a=b)=r:=⟨_,rfl⟩
 rw [hr]
 have HR:=hid hr
 clear hr
 by_cases hl:a.length=b.length
 ·have hne:((a.length:Int) == (b.length:Int))=true:=by simp;omega
  go_enter Tryz.func76,Tryz.ntmps76
  go_wp2
  go_loopw [4,13] (fun rv iv wr=>∃ (k n:Nat),k<=a.length/\rv=.bool false/\iv=.int .i64 k/\a.take k=b.take k/\w.drewN n=wr) (fun _ iv _=>a.length - (intOf iv).toNat)
  case atStart=>exact ⟨0,0,Nat.zero_le _,rfl,rfl,rfl,rfl⟩
  case round =>
   obtain ⟨k,n,hk,rfl,rfl,htk,rfl⟩:=hrel
   by_cases hlt:k<a.length
   ·have hlb:k<b.length:=by omega
    obtain ⟨b1,o1,rfl,hR1,hc1⟩:=ar_at HA.out (by omega:0<a.length)
    obtain ⟨b2,o2,rfl,hR2,hc2⟩:=ar_at HB.out (by omega:0<b.length)
    obtain ⟨c0,c1⟩:=hc1 k hlt
    obtain ⟨d0,d1⟩:=hc2 k hlb
    have HT:=hid (fun he=>take_nextL htk hlt hlb he)
    have HN:=hid (fun he=>ne_atL hlt hlb he)
    have HLT:=hid hlt
    clear hc1 hc2 htk hR1 hR2
    generalize a[k]=x at *
    generalize b[k]=y at *
    by_cases hxy:x=y
    ·have HT':=hid (HT.out hxy)
     clear HT HN
     subst hxy
     go_wp2_with fail
     go_quiet (fail)
     go_wp2
     go_roundw
     case rel=>exact ⟨k+1,n+nq,HLT.out,by first | rfl | trivial,by rw [wrap_next HLT.out HA.len],HT'.out,by first | rfl | rw [World.drewN_drewN]⟩
     case measure=>exact meas_next HLT.out HA.len
    ·have HB2:=hid (show r=false from by rw [<- HR.out];exact decide_eq_false (HN.out hxy))
     clear HT HN
     obtain ⟨x0,x1⟩:=x
     obtain ⟨y0,y1⟩:=y
     simp only at c0 c1 d0 d1
     by_cases h0:x0=y0
     ·subst h0
      have hwd:(x1 == y1)=false:=by
       have h1:x1 ≠ y1:=fun e=>hxy (by rw [e])
       rw [beq_eq_false_iff_ne];exact h1
      clear hxy
      go_wp2_with fail
      go_quiet (fail)
      go_wp2
      go_ret
      exact ⟨by rw [HB2.out];rfl,n+nq,by first | rfl | rw [World.drewN_drewN]⟩
     ·have hwd:=str_neF h0
      clear hxy h0
      go_wp2_with fail
      go_quiet (fail)
      go_wp2
      go_ret
      exact ⟨by rw [HB2.out];rfl,n+nq,by first | rfl | rw [World.drewN_drewN]⟩
   ·obtain rfl:k=a.length:=by omega
    have HB2:=hid (show r=true from by rw [<- HR.out];exact decide_eq_true (eq_fullL htk (by omega)))
    clear htk hlt
    go_wp2
    go_ret
    exact ⟨by rw [HB2.out];rfl,n,rfl⟩
 ·have hne:((a.length:Int) == (b.length:Int))=false:=by simp;omega
  have HB2:=hid (show r=false from by rw [<- HR.out];exact decide_eq_false (fun e=>hl (by rw [e])))
  clear hl
  go_enter Tryz.func76,Tryz.ntmps76
  go_wp2
  go_ret
  exact ⟨by rw [HB2.out];rfl,0,rfl⟩
theorem eqstrs_any (a b:List Bs) (va vb:Value) (R R':Nat->Prop) (w:World) (ha:SlG kStr R w va a) (hb:SlG kStr R' w vb b) :
  Calls Tryz.prog 73 #[va,vb] w fun e w'=>e=.returned (.bool (decide (a=b)))/\∃ n,w.drewN n=w':=by
 obtain ⟨pa,ca,rfl⟩:=ha.slc
 obtain ⟨pb,cb,rfl⟩:=hb.slc
 have HA:=hid ha;have HB:=hid hb
 clear ha hb
 obtain ⟨r,hr⟩:∃ r,decide (a=b)=r:=⟨_,rfl⟩
 rw [hr]
 have HR:=hid hr
 clear hr
 by_cases hl:a.length=b.length
 ·have hne:((a.length:Int) == (b.length:Int))=true:=by simp;omega
  go_enter Tryz.func73,Tryz.ntmps73
  go_wp2
  go_loopw [4,13] (fun rv iv wr=>∃ (k n:Nat),k<=a.length/\rv=.bool false/\iv=.int .i64 k/\a.take k=b.take k/\w.drewN n=wr) (fun _ iv _=>a.length - (intOf iv).toNat)
  case atStart=>exact ⟨0,0,Nat.zero_le _,rfl,rfl,rfl,rfl⟩
  case round =>
   obtain ⟨k,n,hk,rfl,rfl,htk,rfl⟩:=hrel
   by_cases hlt:k<a.length
   ·have hlb:k<b.length:=by omega
    obtain ⟨b1,o1,rfl,hR1,hc1⟩:=str_at HA.out (by omega:0<a.length)
    obtain ⟨b2,o2,rfl,hR2,hc2⟩:=str_at HB.out (by omega:0<b.length)
    have c0:=hc1 k hlt
    have d0:=hc2 k hlb
    have HT:=hid (fun he=>take_nextL htk hlt hlb he)
    have HN:=hid (fun he=>ne_atL hlt hlb he)
    have HLT:=hid hlt
    clear hc1 hc2 htk hR1 hR2
    generalize a[k]=x at *
    generalize b[k]=y at *
    by_cases hxy:x=y
    ·have HT':=hid (HT.out hxy)
     clear HT HN
     subst hxy
     go_wp2_with fail
     go_quiet (fail)
     go_wp2
     go_roundw
     case rel=>exact ⟨k+1,n+nq,HLT.out,by first | rfl | trivial,by rw [wrap_next HLT.out HA.len],HT'.out,by first | rfl | rw [World.drewN_drewN]⟩
     case measure=>exact meas_next HLT.out HA.len
    ·have HB2:=hid (show r=false from by rw [<- HR.out];exact decide_eq_false (HN.out hxy))
     clear HT HN
     have hwd:=str_neF hxy
     clear hxy
     go_wp2_with fail
     go_quiet (fail)
     go_wp2
     go_ret
     exact ⟨by rw [HB2.out];rfl,n+nq,by first | rfl | rw [World.drewN_drewN]⟩
   ·obtain rfl:k=a.length:=by omega
    have HB2:=hid (show r=true from by rw [<- HR.out];exact decide_eq_true (eq_fullL htk (by omega)))
    clear htk hlt
    go_wp2
    go_ret
    exact ⟨by rw [HB2.out];rfl,n,rfl⟩
 ·have hne:((a.length:Int) == (b.length:Int))=false:=by simp;omega
  have HB2:=hid (show r=false from by rw [<- HR.out];exact decide_eq_false (fun e=>hl (by rw [e])))
  clear hl
  go_enter Tryz.func73,Tryz.ntmps73
  go_wp2
  go_ret
  exact ⟨by rw [HB2.out];rfl,0,rfl⟩
end Go.Proofs.YtoofbgoeipijcaaGreatDoor
