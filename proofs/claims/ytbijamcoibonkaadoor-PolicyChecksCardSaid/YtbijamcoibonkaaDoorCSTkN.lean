/-
 Names and numbers: the program's and the reference's walks.
-/
import Derived.Test.YtbijamcoibonkaaDoorCB5
import Derived.Laws.StructEq
namespace Go.Proofs.YtbijamcoibonkaaDoor
set_option linter.unusedSimpArgs false
set_option linter.unusedVariables false
open Go.RowKit Go.Shelf
def digB (c:UInt8):Bool:=decide (48≤c.toNat) && decide (c.toNat≤57)
def namB (c:UInt8):Bool:=digB c || decide (c.toNat=95) || (decide (97≤c.toNat) && decide (c.toNat≤122)) || (decide (65≤c.toNat) && decide (c.toNat≤90))
def nameB (s:Bs):Bool:=decide (1≤s.length) && decide (s.length≤32) && !(digB (s.headD 0)) && s.all namB
def numGo:Bs→Nat→Nat × Int
 | [],n=>(n,0)
 | c :: r,n=>if (18446744073709551615 - (c.toNat - 48)) / 10<n then (0,3) else numGo r (10*n+(c.toNat - 48))
def numR (s:Bs):Nat × Int :=
 if s.length<1∨20<s.length then (0,4) else if s.all digB=true then numGo s 0 else (0,4)
theorem bytes_of (sb:ByteArray) (w:World):∃ cap W1,(convert 9 66 (.string sb)).run Tryd.prog w = .ok (.slice (some ⟨w.heap.size,0,none⟩) sb.size cap) W1∧Below w.heap.size w W1 ∧
  ∀ j (h:j<sb.size),W1.cell? ⟨w.heap.size,j,none⟩=some (.int .u8 (sb[j].toNat:Int)):=by
 refine ⟨_,_,run_bytes_of_string w 9 66 5 sb Tryd.underlying9 Tryd.underlying66 Tryd.underlying5,?_,?_⟩
 ·exact ((Below.refl w.heap.size w).drew).alloc (Nat.le_refl _) _
 ·intro j h
  have:=World.cell?_alloc_mark w.drew (bytesRow sb (grownCap w sb.size 0 5)) 5 ((bytesRow sb (grownCap w sb.size 0 5)).size,(bytesRow sb (grownCap w sb.size 0 5)).size+1) j
  refine Eq.trans this ?_
  unfold bytesRow
  have h':j<sb.data.size:=h
  rw [Array.getElem?_append_left (by simpa using h'),Array.getElem?_map,Array.getElem?_eq_getElem h']
  rfl
theorem dig_yes {c:UInt8} (h:48≤c.toNat) (h2:c.toNat≤57):digB c=true:=by simp [digB,h,h2]
theorem dig_no {c:UInt8} (h:c.toNat<48∨57<c.toNat):digB c=false:=by simp [digB];omega
theorem nam_yes {c:UInt8} (h:(48≤c.toNat∧c.toNat≤57)∨c.toNat=95∨(97≤c.toNat∧c.toNat≤122)∨(65≤c.toNat∧c.toNat≤90)):namB c=true:=by simp [namB,digB];omega
theorem nam_no {c:UInt8} (h:¬ ((48≤c.toNat∧c.toNat≤57)∨c.toNat=95∨(97≤c.toNat∧c.toNat≤122)∨(65≤c.toNat∧c.toNat≤90))):namB c=false:=by simp [namB,digB];omega
theorem digit_any (c:UInt8) (w:World):Calls Tryd.prog 55 #[.int .u8 (c.toNat:Int)] w fun e w'=>e = .returned (.bool (digB c))∧w=w':=by
 rcases (show c.toNat<48∨(48≤c.toNat∧c.toNat≤57)∨(48≤c.toNat∧57<c.toNat) by omega) with h | ⟨h,h2⟩ | ⟨h,h2⟩
 ·rw [dig_no (.inl h)]
  have a1:decide (48≤(c.toNat:Int))=false:=by simp;omega
  clear h
  go_enter Tryd.func55,Tryd.ntmps55
  go_wp2
  go_ret
  exact ⟨rfl,rfl⟩
 ·rw [dig_yes h h2]
  have a1:decide (48≤(c.toNat:Int))=true:=by simp;omega
  have a2:decide ((c.toNat:Int)≤57)=true:=by simp;omega
  clear h h2
  go_enter Tryd.func55,Tryd.ntmps55
  go_wp2
  go_ret
  exact ⟨rfl,rfl⟩
 ·rw [dig_no (.inr h2)]
  have a1:decide (48≤(c.toNat:Int))=true:=by simp;omega
  have a2:decide ((c.toNat:Int)≤57)=false:=by simp;omega
  clear h h2
  go_enter Tryd.func55,Tryd.ntmps55
  go_wp2
  go_ret
  exact ⟨rfl,rfl⟩
theorem rdigit_any (c:UInt8) (w:World):Calls Tryd.prog 65 #[.int .u8 (c.toNat:Int)] w fun e w'=>e = .returned (.bool (digB c))∧w=w':=by
 rcases (show c.toNat<48∨(48≤c.toNat∧c.toNat≤57)∨(48≤c.toNat∧57<c.toNat) by omega) with h | ⟨h,h2⟩ | ⟨h,h2⟩
 ·rw [dig_no (.inl h)]
  have a1:decide (48≤(c.toNat:Int))=false:=by simp;omega
  clear h
  go_enter Tryd.func65,Tryd.ntmps65
  go_wp2
  go_ret
  exact ⟨rfl,rfl⟩
 ·rw [dig_yes h h2]
  have a1:decide (48≤(c.toNat:Int))=true:=by simp;omega
  have a2:decide ((c.toNat:Int)≤57)=true:=by simp;omega
  clear h h2
  go_enter Tryd.func65,Tryd.ntmps65
  go_wp2
  go_ret
  exact ⟨rfl,rfl⟩
 ·rw [dig_no (.inr h2)]
  have a1:decide (48≤(c.toNat:Int))=true:=by simp;omega
  have a2:decide ((c.toNat:Int)≤57)=false:=by simp;omega
  clear h h2
  go_enter Tryd.func65,Tryd.ntmps65
  go_wp2
  go_ret
  exact ⟨rfl,rfl⟩
theorem size_mk (s:Bs):(⟨s.toArray⟩:ByteArray).size=s.length:=by show s.toArray.size=_;simp
theorem empty_of (sb:ByteArray):sb.toList.isEmpty=decide (sb.size=0):=by
 rw [ByteArray.toList_eq]
 have:sb.data.toList.length=sb.size:=rfl
 cases h:sb.data.toList with
 | nil=>rw [h] at this;simp at this;simp [← this]
 | cons a l=>rw [h] at this;simp at this;simp [← this]
theorem all_snoc (f:UInt8→Bool) (sb:ByteArray) (k:Nat) (h:k<sb.size):(sb.data.toList.take (k+1)).all f=((sb.data.toList.take k).all f && f sb[k]):=by
 rw [List.take_add_one,List.getElem?_eq_getElem (show k<sb.data.toList.length from h),List.all_append]
 simp
 rfl
theorem all_not (f:UInt8→Bool) (sb:ByteArray) (k:Nat) (h:k<sb.size) (hf:f sb[k]=false):sb.data.toList.all f=false:=by
 rw [List.all_eq_false]
 exact ⟨sb[k],List.getElem_mem (show k<sb.data.toList.length from h),by rw [hf];decide⟩
theorem all_full (f:UInt8→Bool) (sb:ByteArray) (h:(sb.data.toList.take sb.size).all f=true):sb.data.toList.all f=true:=by
 rw [show sb.data.toList.take sb.size=sb.data.toList from List.take_of_length_le (Nat.le_refl _)] at h
 exact h
theorem head_of (sb:ByteArray) (h:0<sb.size):sb.data.toList.headD 0=sb[0]:=by
 have h':0<sb.data.toList.length:=h
 cases hl:sb.data.toList with
 | nil=>rw [hl] at h';simp at h'
 | cons a l =>
  have:sb[0]=sb.data.toList[0]:=rfl
  rw [this];simp [hl]
set_option maxRecDepth 100000 in
set_option maxHeartbeats 4000000 in
theorem name_any (s:Bs) (w:World) (hs:s.length≤140737488355328):Calls Tryd.prog 19 #[.string ⟨s.toArray⟩] w fun e w'=>e = .returned (.bool (nameB s))∧Below w.heap.size w w':=by
 obtain ⟨sb,hsb⟩:∃ sb:ByteArray,(⟨s.toArray⟩:ByteArray)=sb:=⟨_,rfl⟩
 have hsd:s=sb.data.toList:=by rw [← hsb]
 have hsz:sb.size=s.length:=by rw [← hsb];exact size_mk s
 have hnm:nameB s=(decide (1≤sb.size) && decide (sb.size≤32) && !(digB (sb.data.toList.headD 0)) && sb.data.toList.all namB):=by unfold nameB;rw [hsz,← hsd]
 rw [hsb,hnm]
 obtain ⟨al,hal⟩:∃ al,sb.data.toList.all namB=al:=⟨_,rfl⟩
 rw [hal]
 have HAL:=hid hal
 clear hal
 have hem:=empty_of sb
 have hs':sb.size≤140737488355328:=by omega
 clear hnm hsb hsd hsz hs
 by_cases h0:sb.size=0
 ·rw [show decide (1≤sb.size)=false from decide_eq_false (by omega)]
  rw [show decide (sb.size=0)=true from decide_eq_true (by omega)] at hem
  clear h0
  go_enter Tryd.func19,Tryd.ntmps19
  go_wp2
  go_ret
  exact ⟨rfl,Below.refl _ _⟩
 ·rw [show decide (1≤sb.size)=true from decide_eq_true (by omega)]
  rw [show decide (sb.size=0)=false from decide_eq_false (by omega)] at hem
  by_cases h32:32<sb.size
  ·rw [show decide (sb.size≤32)=false from decide_eq_false (by omega)]
   have a0:decide (32<(sb.size:Int))=true:=by simp;omega
   clear h0 h32
   go_enter Tryd.func19,Tryd.ntmps19
   go_wp2
   go_ret
   exact ⟨rfl,Below.refl _ _⟩
  ·have h1:0<sb.size:=by omega
   rw [show decide (sb.size≤32)=true from decide_eq_true (by omega),head_of sb h1]
   have a0:decide (32<(sb.size:Int))=false:=by simp;omega
   have hdg:=digit_any sb[0]
   have HDG:=hid hdg
   clear hdg h32 h0
   cases hd0:digB sb[0] with
   | true =>
    rw [hd0] at HDG
    clear hd0
    go_enter Tryd.func19,Tryd.ntmps19
    go_wp2_with (go_at_call 55;refine (HDG.out _).mono ?_;rintro e w' ⟨rfl,rfl⟩)
    go_ret
    exact ⟨rfl,Below.refl _ _⟩
   | false =>
    rw [hd0] at HDG
    clear hd0
    obtain ⟨cap,W1,hby,hbel,hcell⟩:=bytes_of sb w
    have HBEL:=hid hbel;have HCELL:=hid hcell
    clear hbel hcell
    go_enter Tryd.func19,Tryd.ntmps19
    go_wp2_with (go_at_call 55;refine (HDG.out _).mono ?_;rintro e w' ⟨rfl,rfl⟩)
    clear hby HDG
    go_loop [2,20] (fun v2 iv=>∃ k:Nat,k≤sb.size∧iv = .int .i64 k∧v2 = .bool false∧(sb.data.toList.take k).all namB=true) (fun _ iv=>sb.size - (intOf iv).toNat)
    case atStart=>exact ⟨0,Nat.zero_le _,rfl,rfl,rfl⟩
    case round =>
     obtain ⟨k,hk,rfl,rfl,hall⟩:=hrel
     by_cases hlt:k<sb.size
     ·have hc:=HCELL.out k hlt
      have hsn:=all_snoc namB sb k hlt
      have hno:=all_not namB sb k hlt
      rw [hall,Bool.true_and] at hsn
      have HSN:=hid hsn;have HNO:=hid hno;have HDG:=hid (digit_any sb[k])
      clear hsn hno hall
      rcases (show (48≤sb[k].toNat∧sb[k].toNat≤57)∨(sb[k].toNat=95)∨(97≤sb[k].toNat∧sb[k].toNat≤122)∨(65≤sb[k].toNat∧sb[k].toNat≤90)∨(sb[k].toNat<65∧¬ (48≤sb[k].toNat∧sb[k].toNat≤57))∨(90<sb[k].toNat∧sb[k].toNat<97∧sb[k].toNat ≠ 95)∨(122<sb[k].toNat) by omega) with hk | hk | hk | hk | hk | hk | hk
      ·have hd:=dig_yes (c:=sb[k]) hk.1 hk.2
       have hn:=nam_yes (c:=sb[k]) (by omega)
       clear hk
       rw [hd] at HDG;rw [hn] at HSN
       clear hd hn HNO
       go_wp2_with (go_at_call 55;refine (HDG.out _).mono ?_;rintro e w' ⟨rfl,rfl⟩)
       go_round
       case rel=>exact ⟨k+1,by omega,by go_num,rfl,HSN.out⟩
       case measure=>simp [intOf];omega
      ·have hd:=dig_no (c:=sb[k]) (by omega)
       have hn:=nam_yes (c:=sb[k]) (by omega)
       have a1:((sb[k].toNat:Int) != 95)=false:=by simp;omega
       clear hk
       rw [hd] at HDG;rw [hn] at HSN
       clear hd hn HNO
       go_wp2_with (go_at_call 55;refine (HDG.out _).mono ?_;rintro e w' ⟨rfl,rfl⟩)
       go_round
       case rel=>exact ⟨k+1,by omega,by go_num,rfl,HSN.out⟩
       case measure=>simp [intOf];omega
      ·have hd:=dig_no (c:=sb[k]) (by omega)
       have hn:=nam_yes (c:=sb[k]) (by omega)
       have a1:((sb[k].toNat:Int) != 95)=true:=by simp;omega
       have a2:decide ((sb[k].toNat:Int)<97)=false:=by simp;omega
       have a3:decide (122<(sb[k].toNat:Int))=false:=by simp;omega
       clear hk
       rw [hd] at HDG;rw [hn] at HSN
       clear hd hn HNO
       go_wp2_with (go_at_call 55;refine (HDG.out _).mono ?_;rintro e w' ⟨rfl,rfl⟩)
       go_round
       case rel=>exact ⟨k+1,by omega,by go_num,rfl,HSN.out⟩
       case measure=>simp [intOf];omega
      ·have hd:=dig_no (c:=sb[k]) (by omega)
       have hn:=nam_yes (c:=sb[k]) (by omega)
       have a1:((sb[k].toNat:Int) != 95)=true:=by simp;omega
       have a2:decide ((sb[k].toNat:Int)<97)=true:=by simp;omega
       have a4:decide ((sb[k].toNat:Int)<65)=false:=by simp;omega
       have a5:decide (90<(sb[k].toNat:Int))=false:=by simp;omega
       clear hk
       rw [hd] at HDG;rw [hn] at HSN
       clear hd hn HNO
       go_wp2_with (go_at_call 55;refine (HDG.out _).mono ?_;rintro e w' ⟨rfl,rfl⟩)
       go_round
       case rel=>exact ⟨k+1,by omega,by go_num,rfl,HSN.out⟩
       case measure=>simp [intOf];omega
      ·have hd:=dig_no (c:=sb[k]) (by omega)
       have hn:=nam_no (c:=sb[k]) (by omega)
       have a1:((sb[k].toNat:Int) != 95)=true:=by simp;omega
       have a2:decide ((sb[k].toNat:Int)<97)=true:=by simp;omega
       have a4:decide ((sb[k].toNat:Int)<65)=true:=by simp;omega
       clear hk
       have HN:=hid (HAL.out.symm.trans (HNO.out hn))
       rw [hd] at HDG
       clear hd hn HNO HSN
       go_wp2_with (go_at_call 55;refine (HDG.out _).mono ?_;rintro e w' ⟨rfl,rfl⟩)
       go_ret
       exact ⟨ret_b (by rw [HN.out];first | done | rfl | simp),HBEL.out⟩
      ·have hd:=dig_no (c:=sb[k]) (by omega)
       have hn:=nam_no (c:=sb[k]) (by omega)
       have a1:((sb[k].toNat:Int) != 95)=true:=by simp;omega
       have a2:decide ((sb[k].toNat:Int)<97)=true:=by simp;omega
       have a4:decide ((sb[k].toNat:Int)<65)=false:=by simp;omega
       have a5:decide (90<(sb[k].toNat:Int))=true:=by simp;omega
       clear hk
       have HN:=hid (HAL.out.symm.trans (HNO.out hn))
       rw [hd] at HDG
       clear hd hn HNO HSN
       go_wp2_with (go_at_call 55;refine (HDG.out _).mono ?_;rintro e w' ⟨rfl,rfl⟩)
       go_ret
       exact ⟨ret_b (by rw [HN.out];first | done | rfl | simp),HBEL.out⟩
      ·have hd:=dig_no (c:=sb[k]) (by omega)
       have hn:=nam_no (c:=sb[k]) (by omega)
       have a1:((sb[k].toNat:Int) != 95)=true:=by simp;omega
       have a2:decide ((sb[k].toNat:Int)<97)=false:=by simp;omega
       have a3:decide (122<(sb[k].toNat:Int))=true:=by simp;omega
       have a4:decide ((sb[k].toNat:Int)<65)=false:=by simp;omega
       have a5:decide (90<(sb[k].toNat:Int))=true:=by simp;omega
       clear hk
       have HN:=hid (HAL.out.symm.trans (HNO.out hn))
       rw [hd] at HDG
       clear hd hn HNO HSN
       go_wp2_with (go_at_call 55;refine (HDG.out _).mono ?_;rintro e w' ⟨rfl,rfl⟩)
       go_ret
       exact ⟨ret_b (by rw [HN.out];first | done | rfl | simp),HBEL.out⟩
     ·obtain rfl:k=sb.size:=by omega
      have HALL:=hid (HAL.out.symm.trans (all_full namB sb hall))
      clear hall
      go_wp2
      go_ret
      exact ⟨ret_b (by rw [HALL.out]),HBEL.out⟩
set_option maxRecDepth 100000 in
set_option maxHeartbeats 4000000 in
theorem rname_any (s:Bs) (w:World) (hs:s.length≤140737488355328):Calls Tryd.prog 37 #[.string ⟨s.toArray⟩] w fun e w'=>e = .returned (.bool (nameB s))∧w=w':=by
 obtain ⟨sb,hsb⟩:∃ sb:ByteArray,(⟨s.toArray⟩:ByteArray)=sb:=⟨_,rfl⟩
 have hsd:s=sb.data.toList:=by rw [← hsb]
 have hsz:sb.size=s.length:=by rw [← hsb];exact size_mk s
 have hnm:nameB s=(decide (1≤sb.size) && decide (sb.size≤32) && !(digB (sb.data.toList.headD 0)) && sb.data.toList.all namB):=by unfold nameB;rw [hsz,← hsd]
 rw [hsb,hnm]
 obtain ⟨al,hal⟩:∃ al,sb.data.toList.all namB=al:=⟨_,rfl⟩
 rw [hal]
 have HAL:=hid hal
 clear hal
 have hs':sb.size≤140737488355328:=by omega
 clear hnm hsb hsd hsz hs
 go_enter Tryd.func37,Tryd.ntmps37
 go_wp2
 go_loop [2,3] (fun v2 iv=>∃ k:Nat,k≤sb.size∧iv = .int .i64 k∧v2 = .bool false∧(sb.data.toList.take k).all namB=true) (fun _ iv=>sb.size - (intOf iv).toNat)
 case atStart=>exact ⟨0,Nat.zero_le _,rfl,rfl,rfl⟩
 case round =>
  obtain ⟨k,hk,rfl,rfl,hall⟩:=hrel
  by_cases hlt:k<sb.size
  ·have hsn:=all_snoc namB sb k hlt
   have hno:=all_not namB sb k hlt
   rw [hall,Bool.true_and] at hsn
   have HSN:=hid hsn;have HNO:=hid hno;have HDG:=hid (rdigit_any sb[k])
   clear hsn hno hall
   rcases (show (48≤sb[k].toNat∧sb[k].toNat≤57)∨(sb[k].toNat=95)∨(97≤sb[k].toNat∧sb[k].toNat≤122)∨(65≤sb[k].toNat∧sb[k].toNat≤90)∨(sb[k].toNat<65∧¬ (48≤sb[k].toNat∧sb[k].toNat≤57))∨(90<sb[k].toNat∧sb[k].toNat<97∧sb[k].toNat ≠ 95)∨(122<sb[k].toNat) by omega) with hk | hk | hk | hk | hk | hk | hk
   ·have hd:=dig_yes (c:=sb[k]) hk.1 hk.2
    have hn:=nam_yes (c:=sb[k]) (by omega)
    have a1:((sb[k].toNat:Int) != 95)=true:=by simp;omega
    clear hk
    rw [hd] at HDG;rw [hn] at HSN
    clear hd hn HNO
    go_wp2_with (go_at_call 65;refine (HDG.out _).mono ?_;rintro e w' ⟨rfl,rfl⟩)
    go_round
    case rel=>exact ⟨k+1,by omega,by go_num,rfl,HSN.out⟩
    case measure=>simp [intOf];omega
   ·have hd:=dig_no (c:=sb[k]) (by omega)
    have hn:=nam_yes (c:=sb[k]) (by omega)
    have a1:((sb[k].toNat:Int) != 95)=false:=by simp;omega
    clear hk
    rw [hd] at HDG;rw [hn] at HSN
    clear hd hn HNO
    go_wp2_with (go_at_call 65;refine (HDG.out _).mono ?_;rintro e w' ⟨rfl,rfl⟩)
    go_round
    case rel=>exact ⟨k+1,by omega,by go_num,rfl,HSN.out⟩
    case measure=>simp [intOf];omega
   ·have hd:=dig_no (c:=sb[k]) (by omega)
    have hn:=nam_yes (c:=sb[k]) (by omega)
    have a1:((sb[k].toNat:Int) != 95)=true:=by simp;omega
    have a2:decide (97≤(sb[k].toNat:Int))=true:=by simp;omega
    have a3:decide ((sb[k].toNat:Int)≤122)=true:=by simp;omega
    clear hk
    rw [hd] at HDG;rw [hn] at HSN
    clear hd hn HNO
    go_wp2_with (go_at_call 65;refine (HDG.out _).mono ?_;rintro e w' ⟨rfl,rfl⟩)
    go_round
    case rel=>exact ⟨k+1,by omega,by go_num,rfl,HSN.out⟩
    case measure=>simp [intOf];omega
   ·have hd:=dig_no (c:=sb[k]) (by omega)
    have hn:=nam_yes (c:=sb[k]) (by omega)
    have a1:((sb[k].toNat:Int) != 95)=true:=by simp;omega
    have a2:decide (97≤(sb[k].toNat:Int))=false:=by simp;omega
    have a4:decide (65≤(sb[k].toNat:Int))=true:=by simp;omega
    have a5:decide ((sb[k].toNat:Int)≤90)=true:=by simp;omega
    clear hk
    rw [hd] at HDG;rw [hn] at HSN
    clear hd hn HNO
    go_wp2_with (go_at_call 65;refine (HDG.out _).mono ?_;rintro e w' ⟨rfl,rfl⟩)
    go_round
    case rel=>exact ⟨k+1,by omega,by go_num,rfl,HSN.out⟩
    case measure=>simp [intOf];omega
   ·have hd:=dig_no (c:=sb[k]) (by omega)
    have hn:=nam_no (c:=sb[k]) (by omega)
    have a1:((sb[k].toNat:Int) != 95)=true:=by simp;omega
    have a2:decide (97≤(sb[k].toNat:Int))=false:=by simp;omega
    have a4:decide (65≤(sb[k].toNat:Int))=false:=by simp;omega
    clear hk
    have HN:=hid (HAL.out.symm.trans (HNO.out hn))
    rw [hd] at HDG
    clear hd hn HNO HSN
    go_wp2_with (go_at_call 65;refine (HDG.out _).mono ?_;rintro e w' ⟨rfl,rfl⟩)
    go_ret
    exact ⟨ret_b (by rw [HN.out];first | done | rfl | simp),rfl⟩
   ·have hd:=dig_no (c:=sb[k]) (by omega)
    have hn:=nam_no (c:=sb[k]) (by omega)
    have a1:((sb[k].toNat:Int) != 95)=true:=by simp;omega
    have a2:decide (97≤(sb[k].toNat:Int))=false:=by simp;omega
    have a4:decide (65≤(sb[k].toNat:Int))=true:=by simp;omega
    have a5:decide ((sb[k].toNat:Int)≤90)=false:=by simp;omega
    clear hk
    have HN:=hid (HAL.out.symm.trans (HNO.out hn))
    rw [hd] at HDG
    clear hd hn HNO HSN
    go_wp2_with (go_at_call 65;refine (HDG.out _).mono ?_;rintro e w' ⟨rfl,rfl⟩)
    go_ret
    exact ⟨ret_b (by rw [HN.out];first | done | rfl | simp),rfl⟩
   ·have hd:=dig_no (c:=sb[k]) (by omega)
    have hn:=nam_no (c:=sb[k]) (by omega)
    have a1:((sb[k].toNat:Int) != 95)=true:=by simp;omega
    have a2:decide (97≤(sb[k].toNat:Int))=true:=by simp;omega
    have a3:decide ((sb[k].toNat:Int)≤122)=false:=by simp;omega
    have a4:decide (65≤(sb[k].toNat:Int))=true:=by simp;omega
    have a5:decide ((sb[k].toNat:Int)≤90)=false:=by simp;omega
    clear hk
    have HN:=hid (HAL.out.symm.trans (HNO.out hn))
    rw [hd] at HDG
    clear hd hn HNO HSN
    go_wp2_with (go_at_call 65;refine (HDG.out _).mono ?_;rintro e w' ⟨rfl,rfl⟩)
    go_ret
    exact ⟨ret_b (by rw [HN.out];first | done | rfl | simp),rfl⟩
  ·obtain rfl:k=sb.size:=by omega
   have HALL:=hid (HAL.out.symm.trans (all_full namB sb hall))
   clear hall hk hlt
   by_cases h0:sb.size=0
   ·have a1:decide (1≤(sb.size:Int))=false:=by simp;omega
    have HF:=hid (show decide (1≤sb.size)=false from decide_eq_false (by omega))
    clear h0
    go_wp2
    go_ret
    exact ⟨ret_b (by rw [HF.out];rfl),rfl⟩
   ·have a1:decide (1≤(sb.size:Int))=true:=by simp;omega
    have HF:=hid (show decide (1≤sb.size)=true from decide_eq_true (by omega))
    by_cases h32:32<sb.size
    ·have a0:decide ((sb.size:Int)≤32)=false:=by simp;omega
     have HG:=hid (show decide (sb.size≤32)=false from decide_eq_false (by omega))
     clear h0 h32
     go_wp2
     go_ret
     exact ⟨ret_b (by rw [HF.out,HG.out];rfl),rfl⟩
    ·have a0:decide ((sb.size:Int)≤32)=true:=by simp;omega
     have HG:=hid (show decide (sb.size≤32)=true from decide_eq_true (by omega))
     have h1:0<sb.size:=by omega
     have HH:=hid (head_of sb h1)
     have HDG:=hid (rdigit_any sb[0])
     clear h0 h32
     obtain ⟨dg,hdg⟩:∃ dg,digB sb[0]=dg:=⟨_,rfl⟩
     rw [hdg] at HDG
     have HD0:=hid hdg
     clear hdg
     go_wp2_with (go_at_call 65;refine (HDG.out _).mono ?_;rintro e w' ⟨rfl,rfl⟩)
     go_ret
     exact ⟨ret_b (by rw [HF.out,HG.out,HH.out,HD0.out,HALL.out];simp),rfl⟩
end Go.Proofs.YtbijamcoibonkaaDoor
