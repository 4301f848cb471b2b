/-
 A part.
-/
import Derived.Test.YtoofbgoeipijcaaGreatDoorVB11
namespace Go.Proofs.YtoofbgoeipijcaaGreatDoor
set_option maxRecDepth 100000
set_option maxHeartbeats 4000000
set_option linter.all false
open Go.RowKit Go.Shelf
attribute [local go_sem] Oper.semAt_some
def EdP (B b:Nat) (O:Nat->Value) (wd:Int) (pw:Option Addr) (cw inn step:Nat) (ws:List Wd) (k:Nat) (w:World) (m:PE Unit) (e:Ending) (w':World):Prop :=
 Below B w w'/\((∃ f,m=.error f/\e=.panicked (fltP f))\/(m=.ok ()/\ws.drop k=[]/\e=.returned (.tuple #[])/\Rd b O wd pw cw inn step ws k w'/\But (fun i=>i=b) w w'))
theorem pend_any {B b:Nat} {O:Nat->Value} {wd:Int} {pw:Option Addr} {cw inn step:Nat} {ws:List Wd} {k:Nat} {w:World} (hd:Rd b O wd pw cw inn step ws k w) (hk:k<=ws.length) (hw:WOk ws) (hB:B<=b):Calls Tryz.prog 146 #[.pointer (some ⟨b,0,none⟩)] w (EdP B b O wd pw cw inn step ws k w (endP (ws.drop k))):=by
 have HD:=hid hd;have HW:=hid hw;have HBB:=hid hB;have HLE:=hid hk;have HSZ:=hid hd.box.lt
 have HBZ:=hid (show B<=w.heap.size from Nat.le_of_lt (Nat.lt_of_le_of_lt hB hd.box.lt))
 clear hd hw hB hk
 go_enter Tryz.func146,Tryz.ntmps146
 go_upto_region 0 with fail
 have hS:(fun W=>W.cell? ⟨b,5,none⟩=some (.slice pw ws.length cw)/\W.cell? ⟨b,6,none⟩=some (.int .i64 (k:Int))) w.drew:=⟨HD.box.at 5 rfl,HD.box.at 6 rfl⟩
 have hFa:=fT
 refine rgN (fun W=>W.cell? ⟨b,5,none⟩=some (.slice pw ws.length cw)/\W.cell? ⟨b,6,none⟩=some (.int .i64 (k:Int))) 10 (by kernel_rfl) ?_
 simp only [zP,Nat.reduceAdd]
 iterate 10 (refine nxW (v:=?_) 10 hS ?_ ?_;rotate_left;(focus rintro w' ⟨s0,s1⟩;go_simp;try rfl);simp only [aP])
 refine wpHJ_done (by kernel_rfl) ?_ _
 simp only [onlyN,Exit.then]
 clear hFa
 clear hS
 by_cases hlt:k<ws.length
 ·go_upto_region 1 with fail
  obtain ⟨wb,off,rfl,hwb,hne,hc⟩:=HD.at HW.pos
  obtain ⟨x,hx⟩:∃ x,ws[k]'hlt=x:=⟨_,rfl⟩
  have h0:=hc k hlt
  rw [hx] at h0
  obtain ⟨h0,h1,h2⟩:=h0
  have HMX:=hid (show ws.drop k=x :: ws.drop (k+1) from by rw [<- hx];exact List.drop_eq_getElem_cons hlt)
  have wk:IntKind.i64.wrap (k:Int)=(k:Int):=IntWalk.i64_in _ (by have:=HW.len;omega)
  have hS:(fun W=>W.cell? ⟨b,5,none⟩=some (.slice (some ⟨wb,off,none⟩) ws.length cw)/\W.cell? ⟨b,6,none⟩=some (.int .i64 (k:Int))/\W.cell? ⟨wb,off+k*3+1,none⟩=some (.int .i64 (x.2.1:Int))/\W.cell? ⟨wb,off+k*3+2,none⟩=some (.int .i64 (x.2.2:Int))) w.drew:=⟨HD.box.at 5 rfl,HD.box.at 6 rfl,h1,h2⟩
  clear hc hx h0 h1 h2
  have hFa:=fT
  refine rgP (fun _ _ _ h=>h) (fun W=>W.cell? ⟨b,5,none⟩=some (.slice (some ⟨wb,off,none⟩) ws.length cw)/\W.cell? ⟨b,6,none⟩=some (.int .i64 (k:Int))/\W.cell? ⟨wb,off+k*3+1,none⟩=some (.int .i64 (x.2.1:Int))/\W.cell? ⟨wb,off+k*3+2,none⟩=some (.int .i64 (x.2.2:Int))) 12 (by kernel_rfl) ?_
  simp only [zP,Nat.reduceAdd]
  iterate 11 (refine nxW (v:=?_) 12 hS ?_ ?_;rotate_left;(focus rintro w' ⟨s0,s1,s2,s3⟩;go_simp;try rfl);simp only [aP])
  refine oy 11 fun K hK=>?_
  go_simp
  (with_reducible refine (callsIn_wide.2 (pneed_any _ ((x.2.1:Int),(x.2.2:Int)) _ _)).mono ?_)
  rintro e wn ⟨hb,⟨hc,rfl⟩ | ⟨hc,rfl⟩⟩
  ·cases hc
  exact ⟨rfl,((Below.refl _ _).drew.drew.trans (hb.mono HBZ.out)),.inl ⟨_,by rw [HMX.out];rfl,rfl⟩⟩
 ·have HNIL:=hid (show ws.drop k=[] from List.drop_eq_nil_of_le (by omega))
  have hlf:decide (k<ws.length)=false:=by simpa using hlt
  go_wp2_with fail
  go_end0
  exact ⟨(Below.refl _ _).drew,.inr ⟨by rw [HNIL.out];rfl,HNIL.out,rfl,HD.below (Below.refl _ _).drew,(But.refl _ _).dr⟩⟩
theorem pdigit_any (s:Bs) (w:World) (hs:s ≠ []):Calls Tryz.prog 217 #[.string ⟨s.toArray⟩] w fun e w'=>e=.returned (.bool (digB (s.headD 0)))/\w'=w:=by
 obtain ⟨sb,hsb⟩:∃ sb:ByteArray,(⟨s.toArray⟩:ByteArray)=sb:=⟨_,rfl⟩
 have hsz:0<sb.size:=by rw [<- hsb,size_mk];exact List.length_pos_iff.2 hs
 have hh:s.headD 0=sb[0]:=by rw [<- head_of sb hsz,<- hsb]
 rw [hsb,hh]
 clear hsb hh hs
 obtain ⟨c,hc⟩:∃ c,sb[0]=c:=⟨_,rfl⟩
 rcases (show c.toNat<48\/(48<=c.toNat/\c.toNat<=57)\/(48<=c.toNat/\57<c.toNat) by omega) with h | ⟨h,h2⟩ | ⟨h,h2⟩
 ·rw [hc,dig_no (.inl h)]
  have a1:decide (48<=(c.toNat:Int))=false:=by simp;omega
  clear h
  go_enter Tryz.func217,Tryz.ntmps217
  go_wp2
  go_ret
  exact ⟨rfl,rfl⟩
 ·rw [hc,dig_yes h h2]
  have a1:decide (48<=(c.toNat:Int))=true:=by simp;omega
  have a2:decide ((c.toNat:Int)<=57)=true:=by simp;omega
  clear h h2
  go_enter Tryz.func217,Tryz.ntmps217
  go_wp2
  go_ret
  exact ⟨rfl,rfl⟩
 ·rw [hc,dig_no (.inr h2)]
  have a1:decide (48<=(c.toNat:Int))=true:=by simp;omega
  have a2:decide ((c.toNat:Int)<=57)=false:=by simp;omega
  clear h h2
  go_enter Tryz.func217,Tryz.ntmps217
  go_wp2
  go_ret
  exact ⟨rfl,rfl⟩
theorem numGo_le:∀ (s:Bs) (n:Nat),n<=18446744073709551615->(numGo s n).1<=18446744073709551615
 | [],n,h=>h
 | c :: r,n,h=>by
  unfold numGo
  split
  ·exact Nat.zero_le _
  ·have:=c.toNat_lt;exact numGo_le r _ (by omega)
theorem numR_eq (sb:ByteArray) (h1:1<=sb.size) (h2:sb.size<=20):numR sb.data.toList=if sb.data.toList.all digB=true then numGo sb.data.toList 0 else (0,4):=by
 unfold numR
 rw [if_neg]
 have:sb.data.toList.length=sb.size:=rfl
 omega
theorem numR_bad (sb:ByteArray) (h:sb.size<1\/20<sb.size):numR sb.data.toList=(0,4):=by
 unfold numR
 rw [if_pos]
 have:sb.data.toList.length=sb.size:=rfl
 omega
theorem ret_ui {a:Int} {c:Int} {p:Nat × Int} (h:p=(a.toNat,c)) (h0:0<=a):Ending.returned (.tuple #[.int .u64 a,.int .i64 c])=.returned (.tuple #[.int .u64 (p.1:Int),.int .i64 p.2]):=by
 rw [h]
 show _=Ending.returned (.tuple #[.int .u64 (a.toNat:Int),.int .i64 c])
 rw [Int.toNat_of_nonneg h0]
def AllD (sb:ByteArray):Prop:=∀ j (h:j<sb.size),48<=sb[j].toNat/\sb[j].toNat<=57
theorem allD (sb:ByteArray) (h:sb.data.toList.all digB=true):AllD sb:=by
 intro j hj
 have:=List.all_eq_true.1 h sb[j] (List.getElem_mem (show j<sb.data.toList.length from hj))
 simpa [digB] using this
theorem number_any (s:Bs) (w:World) (hs:s.length<=140737488355328):Calls Tryz.prog 218 #[.string ⟨s.toArray⟩] w fun e w'=>e=.returned (.tuple #[.int .u64 ((numR s).1:Int),.int .i64 (numR s).2])/\Below w.heap.size w w':=by
 obtain ⟨sb,hsb⟩:∃ sb:ByteArray,(⟨s.toArray⟩:ByteArray)=sb:=⟨_,rfl⟩
 have hsd:s=sb.data.toList:=by rw [<- hsb]
 have hsz:sb.size=s.length:=by rw [<- hsb];exact size_mk s
 rw [hsb,hsd]
 have hs':sb.size<=140737488355328:=by omega
 have hem:=empty_of sb
 have HBAD:=hid (numR_bad sb);have HEQ:=hid (numR_eq sb)
 obtain ⟨R,hR⟩:∃ R,numR sb.data.toList=R:=⟨_,rfl⟩
 rw [hR] at HBAD HEQ ⊢
 clear hsb hsd hsz hs hR
 by_cases h0:sb.size=0
 ·have HB:=hid (HBAD.out (.inl (by omega)))
  rw [show decide (sb.size=0)=true from decide_eq_true (by omega)] at hem
  clear h0 HBAD HEQ
  go_enter Tryz.func218,Tryz.ntmps218
  go_wp2
  go_ret2
  exact ⟨ret_ui (by rw [HB.out];rfl) (by omega),Below.refl _ _⟩
 ·rw [show decide (sb.size=0)=false from decide_eq_false (by omega)] at hem
  by_cases h20:20<sb.size
  ·have HB:=hid (HBAD.out (.inr h20))
   have a0:decide (20<(sb.size:Int))=true:=by simp;omega
   clear h0 h20 HBAD HEQ
   go_enter Tryz.func218,Tryz.ntmps218
   go_wp2
   go_ret2
   exact ⟨ret_ui (by rw [HB.out];rfl) (by omega),Below.refl _ _⟩
  ·have HE:=hid (HEQ.out (by omega) (by omega))
   have a0:decide (20<(sb.size:Int))=false:=by simp;omega
   have h1:0<sb.size:=by omega
   have h2:sb.size<=20:=by omega
   clear h0 h20 HBAD HEQ
   obtain ⟨cap,W1,hby,hbel,hcell⟩:=bytes_of sb w
   have HBEL:=hid hbel;have HCELL:=hid hcell
   clear hbel hcell
   go_enter Tryz.func218,Tryz.ntmps218
   go_wp2
   clear hby
   go_loop [2,3,20] (fun v2 v3 iv=>∃ k:Nat,k<=sb.size/\iv=.int .i64 k/\v2=.int .u64 0/\v3=.int .i64 0/\(sb.data.toList.take k).all digB=true) (fun _ _ iv=>sb.size - (intOf iv).toNat)
   case atStart=>exact ⟨0,Nat.zero_le _,rfl,rfl,rfl,rfl⟩
   case round =>
    obtain ⟨k,hk,rfl,rfl,rfl,hall⟩:=hrel
    by_cases hlt:k<sb.size
    ·have hc:=HCELL.out k hlt
     have hsn:=all_snoc digB sb k hlt
     have hno:=all_not digB sb k hlt
     rw [hall,Bool.true_and] at hsn
     have HSN:=hid hsn;have HNO:=hid hno;have HDG:=hid (digit_any sb[k])
     clear hsn hno hall
     cases hd:digB sb[k] with
     | true =>
      rw [hd] at HDG HSN
      clear hd
      go_wp2_with (go_at_call 216;refine (HDG.out _).mono ?_;rintro e w' ⟨rfl,rfl⟩)
      go_round
      case rel=>exact ⟨k+1,by omega,by go_num,rfl,rfl,HSN.out⟩
      case measure=>simp [intOf];omega
     | false =>
      have HB:=hid (show R=(0,4) from by rw [HE.out,if_neg (by rw [HNO.out hd];decide)])
      rw [hd] at HDG
      clear hd
      go_wp2_with (go_at_call 216;refine (HDG.out _).mono ?_;rintro e w' ⟨rfl,rfl⟩)
      go_ret2
      exact ⟨ret_ui (by rw [HB.out];rfl) (by omega),HBEL.out⟩
    ·obtain rfl:k=sb.size:=by omega
     have hall':=all_full digB sb hall
     have HB:=hid (show R=numGo sb.data.toList 0 from by rw [HE.out,if_pos hall'])
     have HD:=hid (allD sb hall')
     clear hall hall' hk hlt HE
     obtain ⟨cap2,W2,hby2,hbel2,hcell2⟩:=bytes_of sb W1
     have HBEL2:=hid (HBEL.trans (hbel2.mono HBEL.size));have HCELL2:=hid hcell2
     clear hbel2 hcell2
     go_wp2
     clear hby2
     go_loop [2,3,6,31] (fun v2 v3 nv iv=>∃ (k n:Nat),k<=sb.size/\iv=.int .i64 k/\v2=.int .u64 0/\v3=.int .i64 0/\nv=.int .u64 n/\n<=18446744073709551615/\numGo (sb.data.toList.drop k) n=R) (fun _ _ _ iv=>sb.size - (intOf iv).toNat)
     case atStart=>exact ⟨0,0,Nat.zero_le _,rfl,rfl,rfl,rfl,Nat.zero_le _,HB.symm⟩
     case round =>
      obtain ⟨k,n,hk,rfl,rfl,rfl,rfl,hn,hgo⟩:=hrel
      by_cases hlt:k<sb.size
      ·have hc2:=HCELL2.out k hlt
       have hdr:sb.data.toList.drop k=sb[k] :: sb.data.toList.drop (k+1):=List.drop_eq_getElem_cons hlt
       obtain ⟨d1,d2⟩:=HD.out k hlt
       rw [hdr] at hgo
       clear hdr
       unfold numGo at hgo
       generalize hc:sb[k].toNat=c at *
       by_cases hg:(18446744073709551615 - (c - 48)) / 10<n
       ·have hgi:(18446744073709551615 - ((c:Int) - 48)) / 10<(n:Int):=by omega
        rw [if_pos hg] at hgo
        have HGO:=hid hgo
        clear hg hgo hc
        go_wp2
        go_ret2
        exact ⟨ret_ui (by rw [<- HGO.out];rfl) (by omega),HBEL2.out⟩
       ·have hgi:(n:Int)<=(18446744073709551615 - ((c:Int) - 48)) / 10:=by omega
        rw [if_neg hg] at hgo
        have HGO:=hid hgo
        have hg2:10*n+(c - 48)<=18446744073709551615:=by omega
        have HG3:=hid (show (10:Int)*(n:Int)+((c:Int) - 48)=((10*n+(c - 48):Nat):Int) by omega)
        clear hg hgo hc
        go_wp2
        go_round
        case rel=>exact ⟨k+1,10*n+(c - 48),by omega,by go_num,rfl,rfl,by rw [HG3.out],hg2,HGO.out⟩
        case measure=>simp [intOf];omega
      ·obtain rfl:k=sb.size:=by omega
       have HGO:=hid (show (n,(0:Int))=R from by rw [<- hgo,show sb.data.toList.drop sb.size=[] from List.drop_eq_nil_of_le lrf];rfl)
       clear hgo
       go_wp2
       go_ret2
       exact ⟨ret_ui (by rw [<- HGO.out];rfl) (by omega),HBEL2.out⟩
end Go.Proofs.YtoofbgoeipijcaaGreatDoor
