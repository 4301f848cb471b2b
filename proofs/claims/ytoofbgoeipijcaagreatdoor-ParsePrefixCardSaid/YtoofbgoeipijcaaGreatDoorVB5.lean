/-
 A part.
-/
import Derived.Test.YtoofbgoeipijcaaGreatDoorVSTkW
import Derived.Test.YtoofbgoeipijcaaGreatDoorVSReg
import Derived.Laws.IdiomStrings
import Derived.Laws.Concat
import Derived.IntWalk
import Derived.Laws.StructEq
namespace Go.Proofs.YtoofbgoeipijcaaGreatDoor
set_option linter.all false
open Go.RowKit Go.Shelf
attribute [local go_sem] Oper.semAt_some
theorem Acc.tail {B eo ew g cp kk:Nat} {w:World} {vo:Value} {out:List (List Wd)} {init:List Wd} {x:Wd} (c:UInt8) (h:Acc B eo ew w vo (.slice (some ⟨g,0,none⟩) kk cp) out (init++[x])) :
  Acc B eo ew (w.setCell ⟨g,init.length*3,none⟩ (.string ⟨(x.1++[c]).toArray⟩)) vo (.slice (some ⟨g,0,none⟩) kk cp) out (init++[(x.1++[c],x.2)]):=by
 obtain ⟨⟨vs,h1,h2,h3⟩,h4,h5⟩:=h
 have hf:∀ k,k ≠ g->(w.setCell ⟨g,init.length*3,none⟩ (.string ⟨(x.1++[c]).toArray⟩)).heap[k]?=w.heap[k]?:=fun k hk=>Below.heap_setCell _ _ _ _ hk
 refine ⟨⟨vs,owns_keepG h1 fun j hj=>hf j fun e=>h5 j hj (by rw [e];rfl),h2,h3.keep fun k hb hs hx=>⟨hf k fun e=>hx.2 (by rw [e];rfl),hx⟩⟩,?_,h5⟩
 ·obtain ⟨hl,h4⟩:=h4
  rcases h4 with ⟨e,_⟩ | ⟨g',cap,cur,e,hb,hg,hn,hm,hs,ht⟩
  ·cases e
  ·cases e
   have el:(init++[(x.1++[c],x.2)]).length=(init++[x]).length:=by simp
   rw [el]
   refine ⟨by rw [wflat_len,el],.inr ⟨g,cp,_,rfl,hb,heap_setCell_at (init.length*3) _ hg,hn,hm,by simpa using hs,?_⟩⟩
   rw [Array.toList_setIfInBounds,List.take_set,ht,wflat_append,wflat_append,wflat_one,wflat_one,show init.length*3=(wflat init).length by rw [wflat_len],List.set_append_right _ _ lrf,Nat.sub_self]
   rfl
structure Two (w:World) (L C:Nat) (W:World):Prop where
 b0:W.heap[w.heap.size]?=some (.cells #[.int .i64 0,.int .i64 0] 39 (0,0))
 b1:W.heap[w.heap.size+1]?=some (.cells #[.int .i64 (L:Int),.int .i64 (C:Int)] 39 (0,0))
 bel:Below w.heap.size w W
theorem Two.app {w:World} {L C:Nat} {W w':World} {row:Option Nat} (h:Two w L C W) (hg:W.grownBy w' row) (hr:∀ k,row=some k->w.heap.size+2<=k):Two w L C w':=by
 have hl0:=(Array.getElem?_eq_some_iff.1 h.b0).1
 have hl1:=(Array.getElem?_eq_some_iff.1 h.b1).1
 exact ⟨(hg.block _ hl0 fun e=>by have:=hr _ e.symm;omega).trans h.b0,(hg.block _ hl1 fun e=>by have:=hr _ e.symm;omega).trans h.b1,h.bel.grown hg (by omega) (fun k e=>by have:=hr k e;omega)⟩
def digB (c:UInt8):Bool:=decide (48<=c.toNat) && decide (c.toNat<=57)
def namB (c:UInt8):Bool:=digB c || decide (c.toNat=95) || (decide (97<=c.toNat) && decide (c.toNat<=122)) || (decide (65<=c.toNat) && decide (c.toNat<=90))
def nameB (s:Bs):Bool:=decide (1<=s.length) && decide (s.length<=32) && !(digB (s.headD 0)) && s.all namB
def numGo:Bs->Nat->Nat × Int
 | [],n=>(n,0)
 | c :: r,n=>if (18446744073709551615 - (c.toNat - 48)) / 10<n then (0,3) else numGo r (10*n+(c.toNat - 48))
def numR (s:Bs):Nat × Int :=
 if s.length<1\/20<s.length then (0,4) else if s.all digB=true then numGo s 0 else (0,4)
theorem bytes_of (sb:ByteArray) (w:World):∃ cap W1,(convert 9 51 (.string sb)).run Tryz.prog w=.ok (.slice (some ⟨w.heap.size,0,none⟩) sb.size cap) W1/\Below w.heap.size w W1 /\
  ∀ j (h:j<sb.size),W1.cell? ⟨w.heap.size,j,none⟩=some (.int .u8 (sb[j].toNat:Int)):=by
 refine ⟨_,_,run_bytes_of_string w 9 51 5 sb Tryz.underlying9 Tryz.underlying51 Tryz.underlying5,?_,?_⟩
 ·exact ((Below.refl w.heap.size w).drew).alloc lrf _
 ·intro j h
  have:=World.cell?_alloc_mark w.drew (bytesRow sb (grownCap w sb.size 0 5)) 5 ((bytesRow sb (grownCap w sb.size 0 5)).size,(bytesRow sb (grownCap w sb.size 0 5)).size+1) j
  refine Eq.trans this ?_
  unfold bytesRow
  have h':j<sb.data.size:=h
  rw [Array.getElem?_append_left (by simpa using h'),Array.getElem?_map,Array.getElem?_eq_getElem h']
  rfl
theorem dig_yes {c:UInt8} (h:48<=c.toNat) (h2:c.toNat<=57):digB c=true:=by simp [digB,h,h2]
theorem dig_no {c:UInt8} (h:c.toNat<48\/57<c.toNat):digB c=false:=by simp [digB];omega
theorem nam_yes {c:UInt8} (h:(48<=c.toNat/\c.toNat<=57)\/c.toNat=95\/(97<=c.toNat/\c.toNat<=122)\/(65<=c.toNat/\c.toNat<=90)):namB c=true:=by simp [namB,digB];omega
theorem nam_no {c:UInt8} (h:¬ ((48<=c.toNat/\c.toNat<=57)\/c.toNat=95\/(97<=c.toNat/\c.toNat<=122)\/(65<=c.toNat/\c.toNat<=90))):namB c=false:=by simp [namB,digB];omega
theorem digit_any (c:UInt8) (w:World):Calls Tryz.prog 216 #[.int .u8 (c.toNat:Int)] w fun e w'=>e=.returned (.bool (digB c))/\w=w':=by
 rcases (show c.toNat<48\/(48<=c.toNat/\c.toNat<=57)\/(48<=c.toNat/\57<c.toNat) by omega) with h | ⟨h,h2⟩ | ⟨h,h2⟩
 ·rw [dig_no (.inl h)]
  have a1:decide (48<=(c.toNat:Int))=false:=by simp;omega
  clear h
  go_enter Tryz.func216,Tryz.ntmps216
  go_wp2
  go_ret
  exact ⟨rfl,rfl⟩
 ·rw [dig_yes h h2]
  have a1:decide (48<=(c.toNat:Int))=true:=by simp;omega
  have a2:decide ((c.toNat:Int)<=57)=true:=by simp;omega
  clear h h2
  go_enter Tryz.func216,Tryz.ntmps216
  go_wp2
  go_ret
  exact ⟨rfl,rfl⟩
 ·rw [dig_no (.inr h2)]
  have a1:decide (48<=(c.toNat:Int))=true:=by simp;omega
  have a2:decide ((c.toNat:Int)<=57)=false:=by simp;omega
  clear h h2
  go_enter Tryz.func216,Tryz.ntmps216
  go_wp2
  go_ret
  exact ⟨rfl,rfl⟩
theorem size_mk (s:Bs):(⟨s.toArray⟩:ByteArray).size=s.length:=by show s.toArray.size=_;simp
theorem empty_of (sb:ByteArray):sb.toList.isEmpty=decide (sb.size=0):=by
 rw [ByteArray.toList_eq]
 have:sb.data.toList.length=sb.size:=rfl
 cases h:sb.data.toList with
 | nil=>rw [h] at this;simp at this;simp [<- this]
 | cons a l=>rw [h] at this;simp at this;simp [<- this]
theorem all_snoc (f:UInt8->Bool) (sb:ByteArray) (k:Nat) (h:k<sb.size):(sb.data.toList.take (k+1)).all f=((sb.data.toList.take k).all f && f sb[k]):=by
 rw [List.take_add_one,List.getElem?_eq_getElem (show k<sb.data.toList.length from h),List.all_append]
 simp
 rfl
theorem all_not (f:UInt8->Bool) (sb:ByteArray) (k:Nat) (h:k<sb.size) (hf:f sb[k]=false):sb.data.toList.all f=false:=by
 rw [List.all_eq_false]
 exact ⟨sb[k],List.getElem_mem (show k<sb.data.toList.length from h),by rw [hf];decide⟩
theorem all_full (f:UInt8->Bool) (sb:ByteArray) (h:(sb.data.toList.take sb.size).all f=true):sb.data.toList.all f=true:=by
 rw [show sb.data.toList.take sb.size=sb.data.toList from List.take_of_length_le lrf] at h
 exact h
theorem head_of (sb:ByteArray) (h:0<sb.size):sb.data.toList.headD 0=sb[0]:=by
 have h':0<sb.data.toList.length:=h
 cases hl:sb.data.toList with
 | nil=>rw [hl] at h';simp at h'
 | cons a l =>
  have:sb[0]=sb.data.toList[0]:=rfl
  rw [this];simp [hl]
set_option maxRecDepth 100000 in
set_option maxHeartbeats 4000000 in
theorem name_any (s:Bs) (w:World) (hs:s.length<=140737488355328):Calls Tryz.prog 193 #[.string ⟨s.toArray⟩] w fun e w'=>e=.returned (.bool (nameB s))/\Below w.heap.size w w':=by
 obtain ⟨sb,hsb⟩:∃ sb:ByteArray,(⟨s.toArray⟩:ByteArray)=sb:=⟨_,rfl⟩
 have hsd:s=sb.data.toList:=by rw [<- hsb]
 have hsz:sb.size=s.length:=by rw [<- hsb];exact size_mk s
 have hnm:nameB s=(decide (1<=sb.size) && decide (sb.size<=32) && !(digB (sb.data.toList.headD 0)) && sb.data.toList.all namB):=by unfold nameB;rw [hsz,<- hsd]
 rw [hsb,hnm]
 obtain ⟨al,hal⟩:∃ al,sb.data.toList.all namB=al:=⟨_,rfl⟩
 rw [hal]
 have HAL:=hid hal
 clear hal
 have hem:=empty_of sb
 have hs':sb.size<=140737488355328:=by omega
 clear hnm hsb hsd hsz hs
 by_cases h0:sb.size=0
 ·rw [show decide (1<=sb.size)=false from decide_eq_false (by omega)]
  rw [show decide (sb.size=0)=true from decide_eq_true (by omega)] at hem
  clear h0
  go_enter Tryz.func193,Tryz.ntmps193
  go_wp2
  go_ret
  exact ⟨rfl,Below.refl _ _⟩
 ·rw [show decide (1<=sb.size)=true from decide_eq_true (by omega)]
  rw [show decide (sb.size=0)=false from decide_eq_false (by omega)] at hem
  by_cases h32:32<sb.size
  ·rw [show decide (sb.size<=32)=false from decide_eq_false (by omega)]
   have a0:decide (32<(sb.size:Int))=true:=by simp;omega
   clear h0 h32
   go_enter Tryz.func193,Tryz.ntmps193
   go_wp2
   go_ret
   exact ⟨rfl,Below.refl _ _⟩
  ·have h1:0<sb.size:=by omega
   rw [show decide (sb.size<=32)=true from decide_eq_true (by omega),head_of sb h1]
   have a0:decide (32<(sb.size:Int))=false:=by simp;omega
   have hdg:=digit_any sb[0]
   have HDG:=hid hdg
   clear hdg h32 h0
   cases hd0:digB sb[0] with
   | true =>
    rw [hd0] at HDG
    clear hd0
    go_enter Tryz.func193,Tryz.ntmps193
    go_wp2_with (go_at_call 216;refine (HDG.out _).mono ?_;rintro e w' ⟨rfl,rfl⟩)
    go_ret
    exact ⟨rfl,Below.refl _ _⟩
   | false =>
    rw [hd0] at HDG
    clear hd0
    obtain ⟨cap,W1,hby,hbel,hcell⟩:=bytes_of sb w
    have HBEL:=hid hbel;have HCELL:=hid hcell
    clear hbel hcell
    go_enter Tryz.func193,Tryz.ntmps193
    go_wp2_with (go_at_call 216;refine (HDG.out _).mono ?_;rintro e w' ⟨rfl,rfl⟩)
    clear hby HDG
    go_loop [2,20] (fun v2 iv=>∃ k:Nat,k<=sb.size/\iv=.int .i64 k/\v2=.bool false/\(sb.data.toList.take k).all namB=true) (fun _ iv=>sb.size - (intOf iv).toNat)
    case atStart=>exact ⟨0,Nat.zero_le _,rfl,rfl,rfl⟩
    case round =>
     obtain ⟨k,hk,rfl,rfl,hall⟩:=hrel
     by_cases hlt:k<sb.size
     ·have hc:=HCELL.out k hlt
      have hsn:=all_snoc namB sb k hlt
      have hno:=all_not namB sb k hlt
      rw [hall,Bool.true_and] at hsn
      have HSN:=hid hsn;have HNO:=hid hno;have HDG:=hid (digit_any sb[k])
      clear hsn hno hall
      rcases (show (48<=sb[k].toNat/\sb[k].toNat<=57)\/(sb[k].toNat=95)\/(97<=sb[k].toNat/\sb[k].toNat<=122)\/(65<=sb[k].toNat/\sb[k].toNat<=90)\/(sb[k].toNat<65/\¬ (48<=sb[k].toNat/\sb[k].toNat<=57))\/(90<sb[k].toNat/\sb[k].toNat<97/\sb[k].toNat ≠ 95)\/(122<sb[k].toNat) by omega) with hk | hk | hk | hk | hk | hk | hk
      ·have hd:=dig_yes (c:=sb[k]) hk.1 hk.2
       have hn:=nam_yes (c:=sb[k]) (by omega)
       clear hk
       rw [hd] at HDG;rw [hn] at HSN
       clear hd hn HNO
       go_wp2_with (go_at_call 216;refine (HDG.out _).mono ?_;rintro e w' ⟨rfl,rfl⟩)
       go_round
       case rel=>exact ⟨k+1,by omega,by go_num,rfl,HSN.out⟩
       case measure=>simp [intOf];omega
      ·have hd:=dig_no (c:=sb[k]) (by omega)
       have hn:=nam_yes (c:=sb[k]) (by omega)
       have a1:((sb[k].toNat:Int) != 95)=false:=by simp;omega
       clear hk
       rw [hd] at HDG;rw [hn] at HSN
       clear hd hn HNO
       go_wp2_with (go_at_call 216;refine (HDG.out _).mono ?_;rintro e w' ⟨rfl,rfl⟩)
       go_round
       case rel=>exact ⟨k+1,by omega,by go_num,rfl,HSN.out⟩
       case measure=>simp [intOf];omega
      ·have hd:=dig_no (c:=sb[k]) (by omega)
       have hn:=nam_yes (c:=sb[k]) (by omega)
       have a1:((sb[k].toNat:Int) != 95)=true:=by simp;omega
       have a2:decide ((sb[k].toNat:Int)<97)=false:=by simp;omega
       have a3:decide (122<(sb[k].toNat:Int))=false:=by simp;omega
       clear hk
       rw [hd] at HDG;rw [hn] at HSN
       clear hd hn HNO
       go_wp2_with (go_at_call 216;refine (HDG.out _).mono ?_;rintro e w' ⟨rfl,rfl⟩)
       go_round
       case rel=>exact ⟨k+1,by omega,by go_num,rfl,HSN.out⟩
       case measure=>simp [intOf];omega
      ·have hd:=dig_no (c:=sb[k]) (by omega)
       have hn:=nam_yes (c:=sb[k]) (by omega)
       have a1:((sb[k].toNat:Int) != 95)=true:=by simp;omega
       have a2:decide ((sb[k].toNat:Int)<97)=true:=by simp;omega
       have a4:decide ((sb[k].toNat:Int)<65)=false:=by simp;omega
       have a5:decide (90<(sb[k].toNat:Int))=false:=by simp;omega
       clear hk
       rw [hd] at HDG;rw [hn] at HSN
       clear hd hn HNO
       go_wp2_with (go_at_call 216;refine (HDG.out _).mono ?_;rintro e w' ⟨rfl,rfl⟩)
       go_round
       case rel=>exact ⟨k+1,by omega,by go_num,rfl,HSN.out⟩
       case measure=>simp [intOf];omega
      ·have hd:=dig_no (c:=sb[k]) (by omega)
       have hn:=nam_no (c:=sb[k]) (by omega)
       have a1:((sb[k].toNat:Int) != 95)=true:=by simp;omega
       have a2:decide ((sb[k].toNat:Int)<97)=true:=by simp;omega
       have a4:decide ((sb[k].toNat:Int)<65)=true:=by simp;omega
       clear hk
       have HN:=hid (HAL.symm.trans (HNO.out hn))
       rw [hd] at HDG
       clear hd hn HNO HSN
       go_wp2_with (go_at_call 216;refine (HDG.out _).mono ?_;rintro e w' ⟨rfl,rfl⟩)
       go_ret
       exact ⟨ret_b (by rw [HN.out];first | done | rfl | simp),HBEL.out⟩
      ·have hd:=dig_no (c:=sb[k]) (by omega)
       have hn:=nam_no (c:=sb[k]) (by omega)
       have a1:((sb[k].toNat:Int) != 95)=true:=by simp;omega
       have a2:decide ((sb[k].toNat:Int)<97)=true:=by simp;omega
       have a4:decide ((sb[k].toNat:Int)<65)=false:=by simp;omega
       have a5:decide (90<(sb[k].toNat:Int))=true:=by simp;omega
       clear hk
       have HN:=hid (HAL.symm.trans (HNO.out hn))
       rw [hd] at HDG
       clear hd hn HNO HSN
       go_wp2_with (go_at_call 216;refine (HDG.out _).mono ?_;rintro e w' ⟨rfl,rfl⟩)
       go_ret
       exact ⟨ret_b (by rw [HN.out];first | done | rfl | simp),HBEL.out⟩
      ·have hd:=dig_no (c:=sb[k]) (by omega)
       have hn:=nam_no (c:=sb[k]) (by omega)
       have a1:((sb[k].toNat:Int) != 95)=true:=by simp;omega
       have a2:decide ((sb[k].toNat:Int)<97)=false:=by simp;omega
       have a3:decide (122<(sb[k].toNat:Int))=true:=by simp;omega
       have a4:decide ((sb[k].toNat:Int)<65)=false:=by simp;omega
       have a5:decide (90<(sb[k].toNat:Int))=true:=by simp;omega
       clear hk
       have HN:=hid (HAL.symm.trans (HNO.out hn))
       rw [hd] at HDG
       clear hd hn HNO HSN
       go_wp2_with (go_at_call 216;refine (HDG.out _).mono ?_;rintro e w' ⟨rfl,rfl⟩)
       go_ret
       exact ⟨ret_b (by rw [HN.out];first | done | rfl | simp),HBEL.out⟩
     ·obtain rfl:k=sb.size:=by omega
      have HALL:=hid (HAL.symm.trans (all_full namB sb hall))
      clear hall
      go_wp2
      go_ret
      exact ⟨ret_b (by rw [HALL.out]),HBEL.out⟩
structure Ag where
 nm:Bs
 num:Nat
deriving DecidableEq
structure In where
 kind:Nat
 op:Nat
 dst:Bs
 nm:Bs
 args:List Ag
 pos:Int × Int
deriving DecidableEq
structure Ar where
 nm:Bs
 size:Int
deriving DecidableEq
structure Fu where
 nm:Bs
 params:List Bs
 code:List In
 pos:Int × Int
deriving DecidableEq
structure Pg where
 width:Int
 chans:List Bs
 arrays:List Ar
 funcs:List Fu
 main:List In
deriving DecidableEq
instance:Inhabited In:=⟨⟨0,0,[],[],[],(0,0)⟩⟩
instance:Inhabited Fu:=⟨⟨[],[],[],(0,0)⟩⟩
def opL:List Bs:=[[110,111,116],[110,101,103],[97,100,100],[115,117,98],[109,117,108],[100,105,118],[114,101,109],[97,110,100],[111,114],[120,111,114],
 [115,104,108],[115,104,114],[115,97,114],[101,113],[110,101],[108,116],[108,101],[115,108,116],[115,108,101],[105,116,101]]
def kwL:List Bs:=[[119,105,100,116,104],[99,104,97,110],[97,114,114,97,121],[102,117,110,99],[109,97,105,110],[101,110,100],[108,111,97,100],[115,116,111,114,101],
 [99,97,108,108],[105,110],[111,117,116],[114,101,108,101,97,115,101],[106,117,109,112],[105,102],[104,97,108,116],[114,101,116]]
def opB (s:Bs):Bool:=opL.contains s
def kwB (s:Bs):Bool:=kwL.contains s
def namedB (s:Bs):Bool:=nameB s && !opB s && !kwB s
def arityM (o:Nat):Nat:=if o<=1 then 0 else if o<=3 then 1 else if o=21 then 3 else 2
def fieldsL:List (Bool × Bool × Int):=[(true,false,1),(true,false,0),(true,true,1),(false,true,2),(true,true,-1),(true,true,0),(false,true,1),(true,true,1),(false,true,0),
 (false,true,1),(false,true,0),(false,false,0),(false,false,1)]
def argB (a:Ag):Bool:=decide (a.nm=[]) || (namedB a.nm && decide (a.num=0))
def wantM (x:In):Int:=if x.kind=1 then (arityM x.op:Int) else (fieldsL.getD x.kind (false,false,0)).2.2
def fieldB (f:Bool) (s:Bs):Bool:=if f then namedB s else decide (s=[])
def opOkB (x:In):Bool:=if x.kind=1 then decide (2<=x.op) && decide (x.op<=20) else decide (x.op=0)
def formB (x:In):Bool:=decide (x.kind<13) && opOkB x && fieldB (fieldsL.getD x.kind (false,false,0)).1 x.dst && fieldB (fieldsL.getD x.kind (false,false,0)).2.1 x.nm
 && (decide (wantM x<0) || decide ((x.args.length:Int)=wantM x)) && decide (x.args.length<=32) && x.args.all argB
abbrev Flt:=(Int × Int) × Int
def declM (pos:Int × Int):List Bs->List Bs->Option Flt
 | _,[]=>none
 | seen,s :: r=>if namedB s=false then some (pos,4) else if seen.contains s then some (pos,8) else declM pos (seen++[s]) r
def arrsM:List Bs->List Ar->Option Flt
 | _,[]=>none
 | seen,a :: r=>if namedB a.nm=false then some ((0,0),4) else if seen.contains a.nm then some ((0,0),8) else if a.size<1\/64<a.size then some ((0,0),3) else arrsM (seen++[a.nm]) r
def stepM (chans arrays:List Bs) (main:Bool) (labels sites:List Bs) (x:In):Except Flt (List Bs × List Bs) :=
 if (formB x && !(main && decide (x.kind=12)))=false then .error (x.pos,4)
 else if x.kind=5\/x.kind=6 then (if chans.contains x.nm then .ok (labels,sites) else .error (x.pos,6))
 else if x.kind=2\/x.kind=3 then (if arrays.contains x.nm then .ok (labels,sites) else .error (x.pos,6))
 else if x.kind=10 then (if labels.contains x.nm then .error (x.pos,8) else .ok (labels++[x.nm],sites))
 else if x.kind=7 then (if sites.contains x.nm then .ok (labels,sites) else if sites.length<32 then .ok (labels,sites++[x.nm]) else .error (x.pos,5))
 else .ok (labels,sites)
def bodyM (chans arrays:List Bs) (main:Bool):List In->List Bs->List Bs->Except Flt (List Bs × List Bs)
 | [],labels,sites => .ok (labels,sites)
 | x :: r,labels,sites=>match stepM chans arrays main labels sites x with
  | .error f => .error f
  | .ok (l,s)=>bodyM chans arrays main r l s
def instrsM (chans arrays:List Bs) (main:Bool) (pos:Int × Int) (code:List In) (sites:List Bs):Except Flt (List Bs × List Bs) :=
 if 1024<code.length then .error (pos,5) else bodyM chans arrays main code [] sites
def funcsM (chans arrays:List Bs):List Bs->List (List Bs)->List Bs->List Fu->Except Flt (List (List Bs) × List Bs)
 | _,labels,sites,[] => .ok (labels,sites)
 | seen,labels,sites,f :: r =>
  if namedB f.nm=false then .error (f.pos,4) else if seen.contains f.nm then .error (f.pos,8) else
  if 32<f.params.length then .error (f.pos,5) else
  match declM f.pos [] f.params with
  | some x => .error x
  | none=>match instrsM chans arrays false f.pos f.code sites with
   | .error x => .error x
   | .ok (l,s)=>funcsM chans arrays (seen++[f.nm]) (labels++[l]) s r
def paramsOf (p:Pg) (s:Bs):Option Nat:=(p.funcs.find? fun f=>decide (f.nm=s)).map fun f=>f.params.length
def targetM (p:Pg) (labels:List Bs) (x:In):Option Flt :=
 if x.kind=8\/x.kind=9 then (if labels.contains x.nm then none else some (x.pos,6))
 else if x.kind=4 then (match paramsOf p x.nm with
  | none=>some (x.pos,6)
  | some n=>if n=x.args.length then none else some (x.pos,4))
 else none
def targetsM (p:Pg) (labels:List Bs):List In->Option Flt
 | []=>none
 | x :: r=>match targetM p labels x with
  | some f=>some f
  | none=>targetsM p labels r
def callsM (code:List In):List Bs:=(code.filter fun x=>decide (x.kind=4)).map In.nm
def codeOf (p:Pg) (s:Bs):List In:=((p.funcs.find? fun f=>decide (f.nm=s)).map Fu.code).getD []
def pushM (name:Bs):List Bs->List Bs->List Bs->Bool × List Bs × List Bs
 | [],seen,todo=>(false,seen,todo)
 | g :: r,seen,todo=>if g=name then (true,seen,todo) else if seen.contains g then pushM name r seen todo else pushM name r (seen++[g]) (todo++[g])
def loopsM (p:Pg) (name:Bs):Nat->List Bs->List Bs->Bool
 | 0,_,_=>false
 | k+1,seen,todo=>if todo=[] then false else
  let r:=pushM name (callsM (codeOf p (todo.getLastD []))) seen todo.dropLast
  if r.1 then true else loopsM p name k r.2.1 r.2.2
def loopB (p:Pg) (name:Bs):Bool:=loopsM p name (2*p.funcs.length+3) [] [name]
def loopsAllM (p:Pg):List Fu->Option Flt
 | []=>none
 | f :: r=>if loopB p f.nm then some (f.pos,9) else loopsAllM p r
def laterM (p:Pg):List (List Bs)->List Fu->Option Flt
 | _,[]=>none
 | ls,f :: r=>match targetsM p (ls.headD []) f.code with
  | some x=>some x
  | none=>laterM p ls.tail r
def checkM (p:Pg):Flt :=
 if p.width<1\/64<p.width then ((0,0),3) else
 if 32<p.chans.length then ((0,0),5) else
 match declM (0,0) [] p.chans with
 | some f=>f
 | none =>
 if 32<p.arrays.length then ((0,0),5) else
 match arrsM [] p.arrays with
 | some f=>f
 | none =>
 if 32<p.funcs.length then ((0,0),5) else
 match funcsM p.chans (p.arrays.map Ar.nm) [] [] [] p.funcs with
 | .error f=>f
 | .ok (labels,sites) =>
 match instrsM p.chans (p.arrays.map Ar.nm) true (0,0) p.main sites with
 | .error f=>f
 | .ok (ml,_) =>
 match laterM p labels p.funcs with
 | some f=>f
 | none =>
 match targetsM p ml p.main with
 | some f=>f
 | none =>
 match loopsAllM p p.funcs with
 | some f=>f
 | none=>((0,0),0)
end Go.Proofs.YtoofbgoeipijcaaGreatDoor
