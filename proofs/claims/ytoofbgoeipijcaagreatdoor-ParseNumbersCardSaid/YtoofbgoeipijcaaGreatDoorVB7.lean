/-
 A part.
-/
import Derived.Test.YtoofbgoeipijcaaGreatDoorVB6
import Derived.Lib.Join
import Derived.Lib.ItoaNum
import Derived.Lib.ItoaLen
import Derived.Lib.Split
import Derived.Lib.SplitLaws
import Derived.Lib.Replace
import Derived.Lib.IndexMore
namespace Go.Proofs.YtoofbgoeipijcaaGreatDoor
set_option linter.all false
open Go.RowKit Go.Shelf
def argT (a:Ag):Bs:=if a.nm=[] then Lib.decDigits a.num else a.nm
def opT (o:Nat):Bs:=opL.getD (o - 2) []
def wLoad:Bs:=[108,111,97,100]
def wStore:Bs:=[115,116,111,114,101]
def wCall:Bs:=[99,97,108,108]
def wIn:Bs:=[105,110]
def wOut:Bs:=[111,117,116]
def wRelease:Bs:=[114,101,108,101,97,115,101]
def wJump:Bs:=[106,117,109,112]
def wIf:Bs:=[105,102]
def wHalt:Bs:=[104,97,108,116]
def wRet:Bs:=[114,101,116]
def wordsM (x:In):List Bs :=
 match x.kind with
 | 0=>x.dst :: [61] :: x.args.map argT
 | 1=>x.dst :: [61] :: opT x.op :: x.args.map argT
 | 2=>x.dst :: [61] :: wLoad :: x.nm :: x.args.map argT
 | 3=>wStore :: x.nm :: x.args.map argT
 | 4=>x.dst :: [61] :: wCall :: x.nm :: x.args.map argT
 | 5=>[wIn,x.dst,x.nm]
 | 6=>wOut :: x.nm :: x.args.map argT
 | 7=>x.dst :: [61] :: wRelease :: x.nm :: x.args.map argT
 | 8=>wJump :: x.nm :: x.args.map argT
 | 9=>wIf :: (x.args.map argT++[x.nm])
 | 11=>[wHalt]
 | 12=>wRet :: x.args.map argT
 | _=>[]
def jn (l:List Bs):Bs:=Lib.join l [32]
def textT (l:List Bs):Bs:=l.flatMap fun s=>s++[10]
theorem numGo_le:∀ (s:Bs) (n:Nat),n<=18446744073709551615->(numGo s n).1<=18446744073709551615
 | [],n,h=>h
 | c :: r,n,h=>by
  unfold numGo
  split
  ·exact Nat.zero_le _
  ·have:=c.toNat_lt;exact numGo_le r _ (by omega)
theorem numR_eq (sb:ByteArray) (h1:1<=sb.size) (h2:sb.size<=20):numR sb.data.toList=if sb.data.toList.all digB=true then numGo sb.data.toList 0 else (0,4):=by
 unfold numR
 rw [if_neg]
 have:sb.data.toList.length=sb.size:=rfl
 omega
theorem numR_bad (sb:ByteArray) (h:sb.size<1\/20<sb.size):numR sb.data.toList=(0,4):=by
 unfold numR
 rw [if_pos]
 have:sb.data.toList.length=sb.size:=rfl
 omega
theorem ret_ui {a:Int} {c:Int} {p:Nat × Int} (h:p=(a.toNat,c)) (h0:0<=a):Ending.returned (.tuple #[.int .u64 a,.int .i64 c])=.returned (.tuple #[.int .u64 (p.1:Int),.int .i64 p.2]):=by
 rw [h]
 show _=Ending.returned (.tuple #[.int .u64 (a.toNat:Int),.int .i64 c])
 rw [Int.toNat_of_nonneg h0]
def AllD (sb:ByteArray):Prop:=∀ j (h:j<sb.size),48<=sb[j].toNat/\sb[j].toNat<=57
theorem allD (sb:ByteArray) (h:sb.data.toList.all digB=true):AllD sb:=by
 intro j hj
 have:=List.all_eq_true.1 h sb[j] (List.getElem_mem (show j<sb.data.toList.length from hj))
 simpa [digB] using this
set_option maxRecDepth 100000 in
set_option maxHeartbeats 4000000 in
theorem number_any (s:Bs) (w:World) (hs:s.length<=140737488355328):Calls Tryz.prog 218 #[.string ⟨s.toArray⟩] w fun e w'=>e=.returned (.tuple #[.int .u64 ((numR s).1:Int),.int .i64 (numR s).2])/\Below w.heap.size w w':=by
 obtain ⟨sb,hsb⟩:∃ sb:ByteArray,(⟨s.toArray⟩:ByteArray)=sb:=⟨_,rfl⟩
 have hsd:s=sb.data.toList:=by rw [<- hsb]
 have hsz:sb.size=s.length:=by rw [<- hsb];exact size_mk s
 rw [hsb,hsd]
 have hs':sb.size<=140737488355328:=by omega
 have hem:=empty_of sb
 have HBAD:=hid (numR_bad sb);have HEQ:=hid (numR_eq sb)
 obtain ⟨R,hR⟩:∃ R,numR sb.data.toList=R:=⟨_,rfl⟩
 rw [hR] at HBAD HEQ ⊢
 clear hsb hsd hsz hs hR
 by_cases h0:sb.size=0
 ·have HB:=hid (HBAD.out (.inl (by omega)))
  rw [show decide (sb.size=0)=true from decide_eq_true (by omega)] at hem
  clear h0 HBAD HEQ
  go_enter Tryz.func218,Tryz.ntmps218
  go_wp2
  go_ret2
  exact ⟨ret_ui (by rw [HB.out];rfl) (by omega),Below.refl _ _⟩
 ·rw [show decide (sb.size=0)=false from decide_eq_false (by omega)] at hem
  by_cases h20:20<sb.size
  ·have HB:=hid (HBAD.out (.inr h20))
   have a0:decide (20<(sb.size:Int))=true:=by simp;omega
   clear h0 h20 HBAD HEQ
   go_enter Tryz.func218,Tryz.ntmps218
   go_wp2
   go_ret2
   exact ⟨ret_ui (by rw [HB.out];rfl) (by omega),Below.refl _ _⟩
  ·have HE:=hid (HEQ.out (by omega) (by omega))
   have a0:decide (20<(sb.size:Int))=false:=by simp;omega
   have h1:0<sb.size:=by omega
   have h2:sb.size<=20:=by omega
   clear h0 h20 HBAD HEQ
   obtain ⟨cap,W1,hby,hbel,hcell⟩:=bytes_of sb w
   have HBEL:=hid hbel;have HCELL:=hid hcell
   clear hbel hcell
   go_enter Tryz.func218,Tryz.ntmps218
   go_wp2
   clear hby
   go_loop [2,3,20] (fun v2 v3 iv=>∃ k:Nat,k<=sb.size/\iv=.int .i64 k/\v2=.int .u64 0/\v3=.int .i64 0/\(sb.data.toList.take k).all digB=true) (fun _ _ iv=>sb.size - (intOf iv).toNat)
   case atStart=>exact ⟨0,Nat.zero_le _,rfl,rfl,rfl,rfl⟩
   case round =>
    obtain ⟨k,hk,rfl,rfl,rfl,hall⟩:=hrel
    by_cases hlt:k<sb.size
    ·have hc:=HCELL.out k hlt
     have hsn:=all_snoc digB sb k hlt
     have hno:=all_not digB sb k hlt
     rw [hall,Bool.true_and] at hsn
     have HSN:=hid hsn;have HNO:=hid hno;have HDG:=hid (digit_any sb[k])
     clear hsn hno hall
     cases hd:digB sb[k] with
     | true =>
      rw [hd] at HDG HSN
      clear hd
      go_wp2_with (go_at_call 216;refine (HDG.out _).mono ?_;rintro e w' ⟨rfl,rfl⟩)
      go_round
      case rel=>exact ⟨k+1,by omega,by go_num,rfl,rfl,HSN.out⟩
      case measure=>simp [intOf];omega
     | false =>
      have HB:=hid (show R=(0,4) from by rw [HE.out,if_neg (by rw [HNO.out hd];decide)])
      rw [hd] at HDG
      clear hd
      go_wp2_with (go_at_call 216;refine (HDG.out _).mono ?_;rintro e w' ⟨rfl,rfl⟩)
      go_ret2
      exact ⟨ret_ui (by rw [HB.out];rfl) (by omega),HBEL.out⟩
    ·obtain rfl:k=sb.size:=by omega
     have hall':=all_full digB sb hall
     have HB:=hid (show R=numGo sb.data.toList 0 from by rw [HE.out,if_pos hall'])
     have HD:=hid (allD sb hall')
     clear hall hall' hk hlt HE
     obtain ⟨cap2,W2,hby2,hbel2,hcell2⟩:=bytes_of sb W1
     have HBEL2:=hid (HBEL.trans (hbel2.mono HBEL.size));have HCELL2:=hid hcell2
     clear hbel2 hcell2
     go_wp2
     clear hby2
     go_loop [2,3,6,31] (fun v2 v3 nv iv=>∃ (k n:Nat),k<=sb.size/\iv=.int .i64 k/\v2=.int .u64 0/\v3=.int .i64 0/\nv=.int .u64 n/\n<=18446744073709551615/\numGo (sb.data.toList.drop k) n=R) (fun _ _ _ iv=>sb.size - (intOf iv).toNat)
     case atStart=>exact ⟨0,0,Nat.zero_le _,rfl,rfl,rfl,rfl,Nat.zero_le _,HB.symm⟩
     case round =>
      obtain ⟨k,n,hk,rfl,rfl,rfl,rfl,hn,hgo⟩:=hrel
      by_cases hlt:k<sb.size
      ·have hc2:=HCELL2.out k hlt
       have hdr:sb.data.toList.drop k=sb[k] :: sb.data.toList.drop (k+1):=List.drop_eq_getElem_cons hlt
       obtain ⟨d1,d2⟩:=HD.out k hlt
       rw [hdr] at hgo
       clear hdr
       unfold numGo at hgo
       generalize hc:sb[k].toNat=c at *
       by_cases hg:(18446744073709551615 - (c - 48)) / 10<n
       ·have hgi:(18446744073709551615 - ((c:Int) - 48)) / 10<(n:Int):=by omega
        rw [if_pos hg] at hgo
        have HGO:=hid hgo
        clear hg hgo hc
        go_wp2
        go_ret2
        exact ⟨ret_ui (by rw [<- HGO.out];rfl) (by omega),HBEL2.out⟩
       ·have hgi:(n:Int)<=(18446744073709551615 - ((c:Int) - 48)) / 10:=by omega
        rw [if_neg hg] at hgo
        have HGO:=hid hgo
        have hg2:10*n+(c - 48)<=18446744073709551615:=by omega
        have HG3:=hid (show (10:Int)*(n:Int)+((c:Int) - 48)=((10*n+(c - 48):Nat):Int) by omega)
        clear hg hgo hc
        go_wp2
        go_round
        case rel=>exact ⟨k+1,10*n+(c - 48),by omega,by go_num,rfl,rfl,by rw [HG3.out],hg2,HGO.out⟩
        case measure=>simp [intOf];omega
      ·obtain rfl:k=sb.size:=by omega
       have HGO:=hid (show (n,(0:Int))=R from by rw [<- hgo,show sb.data.toList.drop sb.size=[] from List.drop_eq_nil_of_le lrf];rfl)
       clear hgo
       go_wp2
       go_ret2
       exact ⟨ret_ui (by rw [<- HGO.out];rfl) (by omega),HBEL2.out⟩
open Go.Lib
theorem numGo_cons (c:UInt8) (r:Bs) (n:Nat):numGo (c :: r) n=if (18446744073709551615 - (c.toNat - 48)) / 10<n then (0,3) else numGo r (10*n+(c.toNat - 48)):=rfl
theorem dig_nat {d:Nat} (h:d<10):(UInt8.ofNat (48+d)).toNat=48+d:=by rw [UInt8.toNat_ofNat'];omega
theorem decDigits_all:∀ n,(decDigits n).all digB=true:=by
 intro n
 induction n using Nat.strongRecOn with
 | _ n ih =>
  rw [decDigits]
  split
  ·rename_i h
   simp [digB,dig_nat h];omega
  ·rename_i h
   rw [List.all_append,ih (n / 10) (by omega)]
   have:=dig_nat (d:=n % 10) (by omega)
   simp only [List.all_cons,List.all_nil,digB,this]
   simp;omega
theorem numGo_dec:∀ (n:Nat),n<=18446744073709551615->∀ t,numGo (decDigits n++t) 0=numGo t n:=by
 intro n
 induction n using Nat.strongRecOn with
 | _ n ih =>
  intro hn t
  rw [decDigits]
  split
  ·rename_i h
   rw [List.cons_append,List.nil_append,numGo_cons,dig_nat h,if_neg (by omega)]
   congr 1;omega
  ·rename_i h
   rw [List.append_assoc,ih (n / 10) (by omega) (by omega),List.cons_append,List.nil_append,numGo_cons,dig_nat (d:=n % 10) (by omega),if_neg (by omega)]
   congr 1;omega
theorem numGo_zeros:∀ (k:Nat) (t:Bs),numGo (List.replicate k 48++t) 0=numGo t 0
 | 0,t=>rfl
 | k+1,t=>by
  rw [List.replicate_succ,List.cons_append,numGo_cons]
  simpa using numGo_zeros k t
def numS (k n:Nat):Bs:=List.replicate k 48++decDigits n
theorem numS_len (k n:Nat):(numS k n).length=k+nDigits n:=by simp [numS,decDigits_length]
theorem numS_all (k n:Nat):(numS k n).all digB=true:=by
 unfold numS
 rw [List.all_append,decDigits_all,Bool.and_true,List.all_eq_true]
 intro c hc
 obtain rfl:=List.eq_of_mem_replicate hc
 decide
theorem nDigits_pos (n:Nat):1<=nDigits n:=by rw [nDigits];split <;> omega
theorem numR_of (s:Bs) (h:1<=s.length/\s.length<=20):numR s=if s.all digB=true then numGo s 0 else (0,4):=by
 unfold numR;rw [if_neg (by omega)]
theorem numR_numS (k n:Nat) (hn:n<=18446744073709551615) (hk:k+nDigits n<=20):numR (numS k n)=(n,0):=by
 have h1:=nDigits_pos n
 rw [numR_of _ (by rw [numS_len];omega),if_pos (numS_all k n)]
 unfold numS
 rw [numGo_zeros]
 have:=numGo_dec n hn []
 rw [List.append_nil] at this
 rw [this];rfl
theorem dec_head (n:Nat):digB ((Lib.decDigits n).headD 0)=true/\Lib.decDigits n ≠ []:=by
 have h1:=decDigits_all n
 have h2:1<=(Lib.decDigits n).length:=by rw [Lib.decDigits_length];exact nDigits_pos n
 cases e:Lib.decDigits n with
 | nil=>rw [e] at h2;simp at h2
 | cons a r=>rw [e] at h1;simp at h1;exact ⟨h1.1,by simp⟩
def NumA (a:Ag):Prop:=a.num<=18446744073709551615
def wlI (x:In):List Bs:=if x.kind=10 then [x.nm++[58]] else wordsM x
def NumI (x:In):Prop:=∀ a ∈ x.args,NumA a
def pcN (n:Nat):Nat:=if 33+n % 94=35 then 36 else 33+n % 94
def pw (c:UInt8):Bs:=List.replicate (1+c.toNat / 94) (UInt8.ofNat (pcN c.toNat))
theorem lt_cons (n:Nat) (c:UInt8) (r:Bs) (i:Nat) (cur:Option (Bs × Nat)) (acc:List Wd):lt n (c :: r) i cur acc=if c=35 then .ok (flushW n cur acc) else if sepB c=true then lt n r (i+1) none (flushW n cur acc) else if badB c=true then .error i else lt n r (i+1) (grow c i cur) acc:=rfl
theorem cutNL_none:∀ s:Bs,(∀ d ∈ s,d ≠ 10)->cutNL s=(s,[],false)
 | [],_=>rfl
 | c :: r,h=>by
  unfold cutNL
  rw [if_neg (h c (by simp)),cutNL_none r fun d hd=>h d (by simp [hd])]
theorem cutNL_at:∀ (s r:Bs),(∀ d ∈ s,d ≠ 10)->cutNL (s++10 :: r)=(s,r,true)
 | [],r,_=>by simp [cutNL]
 | c :: s,r,h=>by
  rw [List.cons_append]
  unfold cutNL
  rw [if_neg (h c (by simp)),cutNL_at s r fun d hd=>h d (by simp [hd])]
def OkW (n:Nat) (line:Bs) (x:Wd):Prop:=x.2.1=n/\1<=x.2.2/\x.1 <+: line.drop (x.2.2 - 1)
structure LtI (n:Nat) (line pre:Bs) (cur:Option (Bs × Nat)) (acc:List Wd):Prop where
 ok:∀ x ∈ acc,OkW n line x
 inc:acc.Pairwise (fun a b=>a.2.2<b.2.2)
 le:∀ x ∈ acc,x.2.2<=pre.length
 cur:∀ u c,cur=some (u,c)->1<=c/\c<=pre.length/\pre.drop (c - 1)=u/\∀ x ∈ acc,x.2.2<c
theorem LtI.flush {n:Nat} {line pre t:Bs} {cur:Option (Bs × Nat)} {acc:List Wd} (h:LtI n line pre cur acc) (hl:line=pre++t):(∀ x ∈ flushW n cur acc,OkW n line x)/\(flushW n cur acc).Pairwise (fun a b=>a.2.2<b.2.2)/\∀ x ∈ flushW n cur acc,x.2.2<=pre.length:=by
 cases cur with
 | none=>exact ⟨h.ok,h.inc,h.le⟩
 | some q =>
  obtain ⟨u,c⟩:=q
  obtain ⟨h1,h2,h3,h4⟩:=h.cur u c rfl
  refine ⟨fun x hx=>?_,?_,fun x hx=>?_⟩
  ·rcases List.mem_append.1 hx with hx | hx
   ·exact h.ok x hx
   ·obtain rfl:=List.mem_singleton.1 hx
    refine ⟨rfl,h1,?_⟩
    rw [hl,List.drop_append_of_le_length (by show c - 1<=_;omega),show (c:Nat) - 1=c - 1 from rfl]
    show u <+: pre.drop (c - 1)++t
    rw [h3];exact List.prefix_append _ _
  ·refine List.pairwise_append.2 ⟨h.inc,List.pairwise_singleton _ _,fun a ha b hb=>?_⟩
   obtain rfl:=List.mem_singleton.1 hb
   exact h4 a ha
  ·rcases List.mem_append.1 hx with hx | hx
   ·exact h.le x hx
   ·obtain rfl:=List.mem_singleton.1 hx
    exact h2
theorem LtI.sep {n:Nat} {line pre t:Bs} {cur:Option (Bs × Nat)} {acc:List Wd} {c:UInt8} (h:LtI n line pre cur acc) (hl:line=pre++t):LtI n line (pre++[c]) none (flushW n cur acc):=by
 obtain ⟨h1,h2,h3⟩:=h.flush hl
 exact ⟨h1,h2,fun x hx=>by have:=h3 x hx;simp;omega,fun u c e=>by cases e⟩
theorem LtI.grow {n:Nat} {line pre:Bs} {cur:Option (Bs × Nat)} {acc:List Wd} {c:UInt8} (h:LtI n line pre cur acc):LtI n line (pre++[c]) (grow c pre.length cur) acc:=by
 refine ⟨h.ok,h.inc,fun x hx=>by have:=h.le x hx;simp;omega,?_⟩
 cases cur with
 | none =>
  intro u k e
  simp only [Go.Proofs.YtoofbgoeipijcaaGreatDoor.grow,Option.some.injEq,Prod.mk.injEq] at e
  obtain ⟨rfl,rfl⟩:=e
  exact ⟨by omega,by simp,by simp,fun x hx=>by have:=h.le x hx;omega⟩
 | some q =>
  obtain ⟨t,k⟩:=q
  intro u k' e
  simp only [Go.Proofs.YtoofbgoeipijcaaGreatDoor.grow,Option.some.injEq,Prod.mk.injEq] at e
  obtain ⟨rfl,rfl⟩:=e
  obtain ⟨h1,h2,h3,h4⟩:=h.cur t k rfl
  exact ⟨h1,by simp;omega,by rw [List.drop_append_of_le_length (by omega),h3],h4⟩
structure RowOk (rows:List Bs) (n:Nat) (ws:List Wd):Prop where
 ne:ws ≠ []
 at':∃ j,∃ h:j<rows.length,∀ x ∈ ws,OkW (n+j) rows[j] x
 inc:ws.Pairwise (fun a b=>a.2.2<b.2.2)
theorem RowOk.line {rows:List Bs} {n:Nat} {ws:List Wd} (h:RowOk rows n ws):∃ L,n<=L/\∀ x ∈ ws,x.2.1=L:=by
 obtain ⟨_,⟨j,_,h2⟩,_⟩:=h
 exact ⟨n+j,by omega,fun x hx=>(h2 x hx).1⟩
def plB (c:UInt8):Bool:=decide (33<=c.toNat) && decide (c.toNat<=126) && decide (c.toNat ≠ 35)
theorem plB_bd {c:UInt8} (h:plB c=true):33<=c.toNat/\c.toNat<=126/\c.toNat ≠ 35:=by
 simp [plB] at h;omega
theorem plB_spec {c:UInt8} (h:plB c=true):badB c=false/\sepB c=false/\c ≠ 35/\c ≠ 10:=by
 have:=plB_bd h
 refine ⟨?_,?_,?_,?_⟩
 ·simp only [badB,Bool.or_eq_false_iff,decide_eq_false_iff_not,UInt8.lt_iff_toNat_lt]
  refine ⟨?_,?_⟩
  ·show ¬ c.toNat<32;omega
  ·show ¬ 126<c.toNat;omega
 ·have h32:c ≠ 32:=by rintro rfl;simp at this
  have h9:c ≠ 9:=by rintro rfl;simp at this
  simp [sepB,h32,h9]
 ·rintro rfl;simp at this
 ·rintro rfl;simp at this
theorem lt_wd (n c:Nat):∀ (w r:Bs) (i:Nat) (u:Bs) (acc:List Wd),(∀ d ∈ w,plB d=true)->lt n (w++r) i (some (u,c)) acc=lt n r (i+w.length) (some (u++w,c)) acc
 | [],r,i,u,acc,_=>by simp
 | d :: w,r,i,u,acc,h=>by
  obtain ⟨h1,h2,h3,_⟩:=plB_spec (h d (by simp))
  rw [List.cons_append,lt_cons,if_neg h3,if_neg (by rw [h2];decide),if_neg (by rw [h1];decide)]
  show lt n (w++r) (i+1) (some (u++[d],c)) acc=_
  rw [lt_wd n c w r (i+1) (u++[d]) acc fun e he=>h e (by simp [he])]
  simp only [List.append_assoc,List.cons_append,List.nil_append,List.length_cons]
  rw [show i+1+w.length=i+(w.length+1) by omega]
theorem lt_word (n:Nat) (w r:Bs) (i:Nat) (acc:List Wd) (hw:w ≠ []) (h:∀ d ∈ w,plB d=true):lt n (w++r) i none acc=lt n r (i+w.length) (some (w,i+1)) acc:=by
 obtain ⟨d,w,rfl⟩:=List.exists_cons_of_ne_nil hw
 obtain ⟨h1,h2,h3,_⟩:=plB_spec (h d (by simp))
 rw [List.cons_append,lt_cons,if_neg h3,if_neg (by rw [h2];decide),if_neg (by rw [h1];decide)]
 show lt n (w++r) (i+1) (some ([d],i+1)) acc=_
 rw [lt_wd n (i+1) w r (i+1) [d] acc fun e he=>h e (by simp [he])]
 simp only [List.cons_append,List.nil_append,List.length_cons]
 rw [show i+1+w.length=i+(w.length+1) by omega]
theorem lt_sep1 (n:Nat) (c:UInt8) (r:Bs) (i:Nat) (cur:Option (Bs × Nat)) (acc:List Wd) (h:sepB c=true) (h35:c ≠ 35):lt n (c :: r) i cur acc=lt n r (i+1) none (flushW n cur acc):=by
 rw [lt_cons,if_neg h35,if_pos h]
def bareI (x:In):In:={ x with pos:=(0,0) }
def bareF (f:Fu):Fu:={ f with code:=f.code.map bareI,pos:=(0,0) }
def bareP (p:Pg):Pg:={ p with funcs:=p.funcs.map bareF,main:=p.main.map bareI }
structure NumP (p:Pg):Prop where
 funcs:∀ f ∈ p.funcs,∀ x ∈ f.code,NumI x
 main:∀ x ∈ p.main,NumI x
def OkWd (w:Bs):Prop:=w ≠ []/\∀ d ∈ w,plB d=true
theorem jn_cons2 (w v:Bs) (r:List Bs):jn (w :: v :: r)=w++32 :: jn (v :: r):=by
 unfold jn
 rw [Lib.join_cons,Lib.join_cons]
 simp [Lib.joinTail,List.append_assoc]
theorem jn_one (w:Bs):jn [w]=w:=by unfold jn;rw [Lib.join_cons];simp [Lib.joinTail]
theorem jn_nl:∀ (l:List Bs),(∀ w ∈ l,OkWd w)->∀ d ∈ jn l,d ≠ 10
 | [],_=>by intro d hd;simp [jn,Lib.join] at hd
 | [w],h=>by
  intro d hd
  rw [jn_one] at hd
  exact (plB_spec ((h w (by simp)).2 d hd)).2.2.2
 | w :: v :: r,h=>by
  intro d hd
  rw [jn_cons2] at hd
  rcases List.mem_append.1 hd with hd | hd
  ·exact (plB_spec ((h w (by simp)).2 d hd)).2.2.2
  ·rcases List.mem_cons.1 hd with rfl | hd
   ·decide
   ·exact jn_nl (v :: r) (fun u hu=>h u (List.mem_cons_of_mem w hu)) d hd
theorem okw_dec (n:Nat):OkWd (Lib.decDigits n):=by
 refine ⟨(dec_head n).2,fun d hd=>?_⟩
 have:=List.all_eq_true.1 (decDigits_all n) d hd
 simp [digB] at this
 simp [plB];omega
def okwB (w:Bs):Bool:=!w.isEmpty && w.all plB
theorem okw_lit {w:Bs} (h:okwB w=true):OkWd w:=by
 unfold okwB at h
 simp at h
 exact ⟨by simpa using h.1,fun d hd=>h.2 d hd⟩
theorem bF_nm {x y:Fu} (h:bareF x=bareF y):x.nm=y.nm:=by have:=congrArg Fu.nm h;exact this
theorem bF_params {x y:Fu} (h:bareF x=bareF y):x.params=y.params:=by have:=congrArg Fu.params h;exact this
theorem bF_code {x y:Fu} (h:bareF x=bareF y):x.code.map bareI=y.code.map bareI:=by have:=congrArg Fu.code h;exact this
theorem bP_funcs {p q:Pg} (h:bareP p=bareP q):p.funcs.map bareF=q.funcs.map bareF:=by have:=congrArg Pg.funcs h;exact this
theorem bP_main {p q:Pg} (h:bareP p=bareP q):p.main.map bareI=q.main.map bareI:=by have:=congrArg Pg.main h;exact this
theorem bP_width {p q:Pg} (h:bareP p=bareP q):p.width=q.width:=by have:=congrArg Pg.width h;exact this
theorem bP_chans {p q:Pg} (h:bareP p=bareP q):p.chans=q.chans:=by have:=congrArg Pg.chans h;exact this
theorem bP_arrays {p q:Pg} (h:bareP p=bareP q):p.arrays=q.arrays:=by have:=congrArg Pg.arrays h;exact this
theorem occ_one (s:Bs) (c:UInt8) (i:Nat):Lib.occAt s [c] i=true ↔ s[i]?=some c:=by
 unfold Lib.occAt
 have:s[i]?=(s.drop i).head?:=by simp [List.head?_drop]
 rw [this]
 cases s.drop i with
 | nil=>simp
 | cons a r =>
  simp
  exact ⟨fun h=>h.symm,fun h=>h.symm⟩
theorem map_no {c d:UInt8}:∀ s:Bs,c ∉ s->(s.map fun x=>if x=c then d else x)=s
 | [],_=>rfl
 | a :: r,h=>by
  rw [List.map_cons,map_no r fun hr=>h (List.mem_cons_of_mem _ hr),if_neg (by rintro rfl;exact h (List.mem_cons_self ..))]
theorem rep_k (c d:UInt8):∀ (k:Nat) (s:Bs),s.count c<=k->Lib.replaceK [c] [d] k s=s.map fun x=>if x=c then d else x
 | 0,s,h=>by
  have hn:c ∉ s:=fun hc=>by have:=List.count_pos_iff.2 hc;omega
  rw [map_no s hn];rfl
 | k+1,s,h=>by
  unfold Lib.replaceK
  rcases Lib.index_spec s [c] with ⟨e,hn⟩ | ⟨i,e,hi,ho,hno⟩
  ·rw [e,if_pos (by decide)]
   have:c ∉ s:=fun hc=>by
    obtain ⟨j,hj,e2⟩:=List.getElem_of_mem hc
    have h1:=hn j (Nat.le_of_lt hj)
    rw [(occ_one s c j).2 (by rw [List.getElem?_eq_getElem hj,e2])] at h1
    cases h1
   rw [map_no s this]
  ·rw [e,if_neg (by rw [beq_iff_eq];omega)]
   have hc:=(occ_one s c i).1 ho
   obtain ⟨hlt,hc⟩:=List.getElem?_eq_some_iff.1 hc
   have e2:(i:Int).toNat=i:=rfl
   rw [e2]
   have hs:s=s.take i++c :: s.drop (i+1):=by rw [<- hc,List.getElem_cons_drop hlt,List.take_append_drop]
   have hno2:c ∉ s.take i:=fun hm=>by
    obtain ⟨j,hj,e3⟩:=List.getElem_of_mem hm
    rw [List.length_take] at hj
    rw [List.getElem_take] at e3
    have h1:=hno j (by omega)
    rw [(occ_one s c j).2 (by rw [List.getElem?_eq_getElem (by omega),e3])] at h1
    cases h1
   have hcnt:(s.drop (i+1)).count c<=k:=by
    have h2:s.count c=(s.take i).count c+(1+(s.drop (i+1)).count c):=by
     conv=>lhs;rw [hs]
     rw [List.count_append,List.count_cons_self];omega
    omega
   have ih:=rep_k c d k (s.drop (i+1)) hcnt
   show s.take i++[d]++Lib.replaceK [c] [d] k (s.drop (i+1))=_
   rw [ih]
   conv=>rhs;rw [hs]
   rw [List.map_append,List.map_cons,map_no _ hno2,if_pos rfl,List.append_assoc]
   rfl
theorem rep_one (c d:UInt8) (hcd:c ≠ d) (s:Bs):Lib.replaceAll s [c] [d]=s.map fun x=>if x=c then d else x:=by
 unfold Lib.replaceAll Lib.replace
 rw [if_neg (by simpa using hcd)]
 exact rep_k c d _ s (by unfold Lib.replaceNum;rw [if_pos (.inl (by decide)),Lib.count_one];exact Nat.le_refl _)
def posW (n:Nat):Nat->List Bs->List Wd
 | _,[]=>[]
 | i,w :: r=>(w,n,i+1) :: posW n (i+w.length+1) r
theorem lt_pos (n:Nat):∀ (l:List Bs) (i:Nat) (acc:List Wd),l ≠ []->(∀ w ∈ l,OkWd w)->lt n (jn l) i none acc=.ok (acc++posW n i l)
 | [],i,acc,h,_=>absurd rfl h
 | [w],i,acc,_,h=>by
  have hw:=h w (List.mem_cons_self ..)
  have:=lt_word n w [] i acc hw.1 hw.2
  rw [List.append_nil] at this
  rw [jn_one,this]
  rfl
 | w :: v :: q,i,acc,_,h=>by
  have hw:=h w (List.mem_cons_self ..)
  rw [jn_cons2,lt_word n w _ i acc hw.1 hw.2,lt_sep1 n 32 _ _ _ _ rfl (by decide),lt_pos n (v :: q) _ _ (by simp) fun x hx=>h x (List.mem_cons_of_mem _ hx)]
  show Except.ok ((acc++[(w,n,i+1)])++_)=_
  rw [List.append_assoc]
  rfl
def posL:Nat->List (List Bs)->List (List Wd)
 | _,[]=>[]
 | n,l :: r=>posW n 0 l :: posL (n+1) r
theorem posW_ne {n i:Nat} {l:List Bs} (h:l ≠ []):posW n i l ≠ []:=by
 cases l with
 | nil=>exact absurd rfl h
 | cons w r=>simp [posW]
theorem ls_pos:∀ (L:List (List Bs)) (n:Nat) (last:List Bs) (out:List (List Wd)),(∀ l ∈ L,l ≠ []/\∀ w ∈ l,OkWd w)->last ≠ []->(∀ w ∈ last,OkWd w)->ls n (textT (L.map jn)++jn last) out=.ok (out++posL n (L++[last]))
 | [],n,last,out,_,h1,h2=>by
  show ls n (jn last) out=_
  rw [ls,cutNL_none _ (jn_nl last h2)]
  dsimp only
  rw [lt_pos n last 0 [] h1 h2]
  simp [addL,posL,posW_ne h1]
 | l :: r,n,last,out,h,h1,h2=>by
  have hl:=h l (List.mem_cons_self ..)
  have e:textT ((l :: r).map jn)++jn last=jn l++10 :: (textT (r.map jn)++jn last):=by
   unfold textT
   rw [List.map_cons,List.flatMap_cons,List.append_assoc,List.append_assoc]
   rfl
  rw [e,ls,cutNL_at _ _ (jn_nl l hl.2)]
  dsimp only
  rw [lt_pos n l 0 [] hl.1 hl.2]
  dsimp only
  rw [dif_pos rfl,ls_pos r (n+1) last _ (fun k hk=>h k (List.mem_cons_of_mem _ hk)) h1 h2]
  simp [addL,posL,posW_ne hl.1]
end Go.Proofs.YtoofbgoeipijcaaGreatDoor
