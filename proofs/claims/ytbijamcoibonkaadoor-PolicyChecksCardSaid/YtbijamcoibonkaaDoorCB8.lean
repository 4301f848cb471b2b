/-
 Programs as texts: the plain model of package print (no program in sight).
-/
import Derived.Test.YtbijamcoibonkaaDoorCB7
import Derived.Lib.Join
import Derived.Lib.ItoaNum
import Derived.Test.YtbijamcoibonkaaDoorCSTkN
import Derived.IntWalk
namespace Go.Proofs.YtbijamcoibonkaaDoor
set_option linter.unusedSimpArgs false
set_option linter.unusedVariables false
open Go.RowKit Go.Shelf
def argT (a:Ag):Bs:=if a.nm=[] then Lib.decDigits a.num else a.nm
def opT (o:Nat):Bs:=opL.getD (o - 2) []
def wLoad:Bs:=[108,111,97,100]
def wStore:Bs:=[115,116,111,114,101]
def wCall:Bs:=[99,97,108,108]
def wIn:Bs:=[105,110]
def wOut:Bs:=[111,117,116]
def wRelease:Bs:=[114,101,108,101,97,115,101]
def wJump:Bs:=[106,117,109,112]
def wIf:Bs:=[105,102]
def wHalt:Bs:=[104,97,108,116]
def wRet:Bs:=[114,101,116]
def wEnd:Bs:=[101,110,100]
def wMain:Bs:=[109,97,105,110]
def wFunc:Bs:=[102,117,110,99]
def wChan:Bs:=[99,104,97,110]
def wArray:Bs:=[97,114,114,97,121]
def wWidth:Bs:=[119,105,100,116,104]
def wordsM (x:In):List Bs :=
 match x.kind with
 | 0=>x.dst :: [61] :: x.args.map argT
 | 1=>x.dst :: [61] :: opT x.op :: x.args.map argT
 | 2=>x.dst :: [61] :: wLoad :: x.nm :: x.args.map argT
 | 3=>wStore :: x.nm :: x.args.map argT
 | 4=>x.dst :: [61] :: wCall :: x.nm :: x.args.map argT
 | 5=>[wIn,x.dst,x.nm]
 | 6=>wOut :: x.nm :: x.args.map argT
 | 7=>x.dst :: [61] :: wRelease :: x.nm :: x.args.map argT
 | 8=>wJump :: x.nm :: x.args.map argT
 | 9=>wIf :: (x.args.map argT++[x.nm])
 | 11=>[wHalt]
 | 12=>wRet :: x.args.map argT
 | _=>[]
def jn (l:List Bs):Bs:=Lib.join l [32]
def lineM (x:In):Bs:=if x.kind=10 then x.nm++[58] else jn (wordsM x)
def bodyT (l:List In):List Bs:=l.map lineM++[wEnd]
def funcT (f:Fu):List Bs:=jn (wFunc :: f.nm :: f.params) :: bodyT f.code
def linesT (p:Pg):List Bs :=
 jn [wWidth,Lib.itoa p.width] :: (p.chans.map fun c=>jn [wChan,c])++(p.arrays.map fun a=>jn [wArray,a.nm,Lib.itoa a.size])++p.funcs.flatMap funcT++wMain :: bodyT p.main
def textT (l:List Bs):Bs:=l.flatMap fun s=>s++[10]
def printM (p:Pg):Bs × Int:=if (checkM p).2 ≠ 0 then ([],(checkM p).2) else if 65536<(textT (linesT p)).length then ([],5) else (textT (linesT p),0)
theorem numGo_le:∀ (s:Bs) (n:Nat),n≤18446744073709551615→(numGo s n).1≤18446744073709551615
 | [],n,h=>h
 | c :: r,n,h=>by
  unfold numGo
  split
  ·exact Nat.zero_le _
  ·have:=c.toNat_lt;exact numGo_le r _ (by omega)
theorem numR_eq (sb:ByteArray) (h1:1≤sb.size) (h2:sb.size≤20):numR sb.data.toList=if sb.data.toList.all digB=true then numGo sb.data.toList 0 else (0,4):=by
 unfold numR
 rw [if_neg]
 have:sb.data.toList.length=sb.size:=rfl
 omega
theorem numR_bad (sb:ByteArray) (h:sb.size<1∨20<sb.size):numR sb.data.toList=(0,4):=by
 unfold numR
 rw [if_pos]
 have:sb.data.toList.length=sb.size:=rfl
 omega
theorem ret_ui {a:Int} {c:Int} {p:Nat × Int} (h:p=(a.toNat,c)) (h0:0≤a):Ending.returned (.tuple #[.int .u64 a,.int .i64 c]) = .returned (.tuple #[.int .u64 (p.1:Int),.int .i64 p.2]):=by
 rw [h]
 show _=Ending.returned (.tuple #[.int .u64 (a.toNat:Int),.int .i64 c])
 rw [Int.toNat_of_nonneg h0]
def AllD (sb:ByteArray):Prop:=∀ j (h:j<sb.size),48≤sb[j].toNat∧sb[j].toNat≤57
theorem allD (sb:ByteArray) (h:sb.data.toList.all digB=true):AllD sb:=by
 intro j hj
 have:=List.all_eq_true.1 h sb[j] (List.getElem_mem (show j<sb.data.toList.length from hj))
 simpa [digB] using this
set_option maxRecDepth 100000 in
set_option maxHeartbeats 4000000 in
theorem number_any (s:Bs) (w:World) (hs:s.length≤140737488355328):Calls Tryd.prog 136 #[.string ⟨s.toArray⟩] w fun e w'=>e = .returned (.tuple #[.int .u64 ((numR s).1:Int),.int .i64 (numR s).2])∧Below w.heap.size w w':=by
 obtain ⟨sb,hsb⟩:∃ sb:ByteArray,(⟨s.toArray⟩:ByteArray)=sb:=⟨_,rfl⟩
 have hsd:s=sb.data.toList:=by rw [← hsb]
 have hsz:sb.size=s.length:=by rw [← hsb];exact size_mk s
 rw [hsb,hsd]
 have hs':sb.size≤140737488355328:=by omega
 have hem:=empty_of sb
 have HBAD:=hid (numR_bad sb);have HEQ:=hid (numR_eq sb)
 obtain ⟨R,hR⟩:∃ R,numR sb.data.toList=R:=⟨_,rfl⟩
 rw [hR] at HBAD HEQ ⊢
 clear hsb hsd hsz hs hR
 by_cases h0:sb.size=0
 ·have HB:=hid (HBAD.out (.inl (by omega)))
  rw [show decide (sb.size=0)=true from decide_eq_true (by omega)] at hem
  clear h0 HBAD HEQ
  go_enter Tryd.func136,Tryd.ntmps136
  go_wp2
  go_ret2
  exact ⟨ret_ui (by rw [HB.out];rfl) (by omega),Below.refl _ _⟩
 ·rw [show decide (sb.size=0)=false from decide_eq_false (by omega)] at hem
  by_cases h20:20<sb.size
  ·have HB:=hid (HBAD.out (.inr h20))
   have a0:decide (20<(sb.size:Int))=true:=by simp;omega
   clear h0 h20 HBAD HEQ
   go_enter Tryd.func136,Tryd.ntmps136
   go_wp2
   go_ret2
   exact ⟨ret_ui (by rw [HB.out];rfl) (by omega),Below.refl _ _⟩
  ·have HE:=hid (HEQ.out (by omega) (by omega))
   have a0:decide (20<(sb.size:Int))=false:=by simp;omega
   have h1:0<sb.size:=by omega
   have h2:sb.size≤20:=by omega
   clear h0 h20 HBAD HEQ
   obtain ⟨cap,W1,hby,hbel,hcell⟩:=bytes_of sb w
   have HBEL:=hid hbel;have HCELL:=hid hcell
   clear hbel hcell
   go_enter Tryd.func136,Tryd.ntmps136
   go_wp2
   clear hby
   go_loop [2,3,20] (fun v2 v3 iv=>∃ k:Nat,k≤sb.size∧iv = .int .i64 k∧v2 = .int .u64 0∧v3 = .int .i64 0∧(sb.data.toList.take k).all digB=true) (fun _ _ iv=>sb.size - (intOf iv).toNat)
   case atStart=>exact ⟨0,Nat.zero_le _,rfl,rfl,rfl,rfl⟩
   case round =>
    obtain ⟨k,hk,rfl,rfl,rfl,hall⟩:=hrel
    by_cases hlt:k<sb.size
    ·have hc:=HCELL.out k hlt
     have hsn:=all_snoc digB sb k hlt
     have hno:=all_not digB sb k hlt
     rw [hall,Bool.true_and] at hsn
     have HSN:=hid hsn;have HNO:=hid hno;have HDG:=hid (digit_any sb[k])
     clear hsn hno hall
     cases hd:digB sb[k] with
     | true =>
      rw [hd] at HDG HSN
      clear hd
      go_wp2_with (go_at_call 55;refine (HDG.out _).mono ?_;rintro e w' ⟨rfl,rfl⟩)
      go_round
      case rel=>exact ⟨k+1,by omega,by go_num,rfl,rfl,HSN.out⟩
      case measure=>simp [intOf];omega
     | false =>
      have HB:=hid (show R=(0,4) from by rw [HE.out,if_neg (by rw [HNO.out hd];decide)])
      rw [hd] at HDG
      clear hd
      go_wp2_with (go_at_call 55;refine (HDG.out _).mono ?_;rintro e w' ⟨rfl,rfl⟩)
      go_ret2
      exact ⟨ret_ui (by rw [HB.out];rfl) (by omega),HBEL.out⟩
    ·obtain rfl:k=sb.size:=by omega
     have hall':=all_full digB sb hall
     have HB:=hid (show R=numGo sb.data.toList 0 from by rw [HE.out,if_pos hall'])
     have HD:=hid (allD sb hall')
     clear hall hall' hk hlt HE
     obtain ⟨cap2,W2,hby2,hbel2,hcell2⟩:=bytes_of sb W1
     have HBEL2:=hid (HBEL.out.trans (hbel2.mono HBEL.out.size));have HCELL2:=hid hcell2
     clear hbel2 hcell2
     go_wp2
     clear hby2
     go_loop [2,3,6,31] (fun v2 v3 nv iv=>∃ (k n:Nat),k≤sb.size∧iv = .int .i64 k∧v2 = .int .u64 0∧v3 = .int .i64 0∧nv = .int .u64 n∧n≤18446744073709551615∧numGo (sb.data.toList.drop k) n=R) (fun _ _ _ iv=>sb.size - (intOf iv).toNat)
     case atStart=>exact ⟨0,0,Nat.zero_le _,rfl,rfl,rfl,rfl,Nat.zero_le _,HB.out.symm⟩
     case round =>
      obtain ⟨k,n,hk,rfl,rfl,rfl,rfl,hn,hgo⟩:=hrel
      by_cases hlt:k<sb.size
      ·have hc2:=HCELL2.out k hlt
       have hdr:sb.data.toList.drop k=sb[k] :: sb.data.toList.drop (k+1):=List.drop_eq_getElem_cons hlt
       obtain ⟨d1,d2⟩:=HD.out k hlt
       rw [hdr] at hgo
       clear hdr
       unfold numGo at hgo
       generalize hc:sb[k].toNat=c at *
       by_cases hg:(18446744073709551615 - (c - 48)) / 10<n
       ·have hgi:(18446744073709551615 - ((c:Int) - 48)) / 10<(n:Int):=by omega
        rw [if_pos hg] at hgo
        have HGO:=hid hgo
        clear hg hgo hc
        go_wp2
        go_ret2
        exact ⟨ret_ui (by rw [← HGO.out];rfl) (by omega),HBEL2.out⟩
       ·have hgi:(n:Int)≤(18446744073709551615 - ((c:Int) - 48)) / 10:=by omega
        rw [if_neg hg] at hgo
        have HGO:=hid hgo
        have hg2:10*n+(c - 48)≤18446744073709551615:=by omega
        have HG3:=hid (show (10:Int)*(n:Int)+((c:Int) - 48)=((10*n+(c - 48):Nat):Int) by omega)
        clear hg hgo hc
        go_wp2
        go_round
        case rel=>exact ⟨k+1,10*n+(c - 48),by omega,by go_num,rfl,rfl,by rw [HG3.out],hg2,HGO.out⟩
        case measure=>simp [intOf];omega
      ·obtain rfl:k=sb.size:=by omega
       have HGO:=hid (show (n,(0:Int))=R from by rw [← hgo,show sb.data.toList.drop sb.size=[] from List.drop_eq_nil_of_le (Nat.le_refl _)];rfl)
       clear hgo
       go_wp2
       go_ret2
       exact ⟨ret_ui (by rw [← HGO.out];rfl) (by omega),HBEL2.out⟩
end Go.Proofs.YtbijamcoibonkaaDoor
namespace Go.Proofs.YtbijamcoibonkaaDoor
set_option linter.unusedSimpArgs false
set_option linter.unusedVariables false
open Go.Lib
theorem numGo_cons (c:UInt8) (r:Bs) (n:Nat):numGo (c :: r) n=if (18446744073709551615 - (c.toNat - 48)) / 10<n then (0,3) else numGo r (10*n+(c.toNat - 48)):=rfl
theorem dig_nat {d:Nat} (h:d<10):(UInt8.ofNat (48+d)).toNat=48+d:=by rw [UInt8.toNat_ofNat'];omega
theorem decDigits_all:∀ n,(decDigits n).all digB=true:=by
 intro n
 induction n using Nat.strongRecOn with
 | _ n ih =>
  rw [decDigits]
  split
  ·rename_i h
   simp [digB,dig_nat h];omega
  ·rename_i h
   rw [List.all_append,ih (n / 10) (by omega)]
   have:=dig_nat (d:=n % 10) (by omega)
   simp only [List.all_cons,List.all_nil,digB,this]
   simp;omega
theorem numGo_dec:∀ (n:Nat),n≤18446744073709551615→∀ t,numGo (decDigits n++t) 0=numGo t n:=by
 intro n
 induction n using Nat.strongRecOn with
 | _ n ih =>
  intro hn t
  rw [decDigits]
  split
  ·rename_i h
   rw [List.cons_append,List.nil_append,numGo_cons,dig_nat h,if_neg (by omega)]
   congr 1;omega
  ·rename_i h
   rw [List.append_assoc,ih (n / 10) (by omega) (by omega),List.cons_append,List.nil_append,numGo_cons,dig_nat (d:=n % 10) (by omega),if_neg (by omega)]
   congr 1;omega
theorem numGo_zeros:∀ (k:Nat) (t:Bs),numGo (List.replicate k 48++t) 0=numGo t 0
 | 0,t=>rfl
 | k+1,t=>by
  rw [List.replicate_succ,List.cons_append,numGo_cons]
  simpa using numGo_zeros k t
def numS (k n:Nat):Bs:=List.replicate k 48++decDigits n
theorem numS_len (k n:Nat):(numS k n).length=k+nDigits n:=by simp [numS,decDigits_length]
theorem numS_all (k n:Nat):(numS k n).all digB=true:=by
 unfold numS
 rw [List.all_append,decDigits_all,Bool.and_true,List.all_eq_true]
 intro c hc
 obtain rfl:=List.eq_of_mem_replicate hc
 decide
theorem nDigits_pos (n:Nat):1≤nDigits n:=by rw [nDigits];split <;> omega
theorem numR_of (s:Bs) (h:1≤s.length∧s.length≤20):numR s=if s.all digB=true then numGo s 0 else (0,4):=by
 unfold numR;rw [if_neg (by omega)]
theorem numR_numS (k n:Nat) (hn:n≤18446744073709551615) (hk:k+nDigits n≤20):numR (numS k n)=(n,0):=by
 have h1:=nDigits_pos n
 rw [numR_of _ (by rw [numS_len];omega),if_pos (numS_all k n)]
 unfold numS
 rw [numGo_zeros]
 have:=numGo_dec n hn []
 rw [List.append_nil] at this
 rw [this];rfl
end Go.Proofs.YtbijamcoibonkaaDoor
