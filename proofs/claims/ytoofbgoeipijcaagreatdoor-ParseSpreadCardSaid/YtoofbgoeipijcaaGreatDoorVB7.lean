/-
 A part.
-/
import Derived.Test.YtoofbgoeipijcaaGreatDoorVB6
import Derived.Lib.Join
import Derived.Lib.ItoaNum
import Derived.Lib.ItoaLen
import Derived.Lib.Split
import Derived.Lib.SplitLaws
namespace Go.Proofs.YtoofbgoeipijcaaGreatDoor
set_option linter.all false
open Go.RowKit Go.Shelf
theorem numGo_le:∀ (s:Bs) (n:Nat),n<=18446744073709551615->(numGo s n).1<=18446744073709551615
 | [],n,h=>h
 | c :: r,n,h=>by
  unfold numGo
  split
  ·exact Nat.zero_le _
  ·have:=c.toNat_lt;exact numGo_le r _ (by omega)
theorem numR_eq (sb:ByteArray) (h1:1<=sb.size) (h2:sb.size<=20):numR sb.data.toList=if sb.data.toList.all digB=true then numGo sb.data.toList 0 else (0,4):=by
 unfold numR
 rw [if_neg]
 have:sb.data.toList.length=sb.size:=rfl
 omega
theorem numR_bad (sb:ByteArray) (h:sb.size<1\/20<sb.size):numR sb.data.toList=(0,4):=by
 unfold numR
 rw [if_pos]
 have:sb.data.toList.length=sb.size:=rfl
 omega
theorem ret_ui {a:Int} {c:Int} {p:Nat × Int} (h:p=(a.toNat,c)) (h0:0<=a):Ending.returned (.tuple #[.int .u64 a,.int .i64 c])=.returned (.tuple #[.int .u64 (p.1:Int),.int .i64 p.2]):=by
 rw [h]
 show _=Ending.returned (.tuple #[.int .u64 (a.toNat:Int),.int .i64 c])
 rw [Int.toNat_of_nonneg h0]
def AllD (sb:ByteArray):Prop:=∀ j (h:j<sb.size),48<=sb[j].toNat/\sb[j].toNat<=57
theorem allD (sb:ByteArray) (h:sb.data.toList.all digB=true):AllD sb:=by
 intro j hj
 have:=List.all_eq_true.1 h sb[j] (List.getElem_mem (show j<sb.data.toList.length from hj))
 simpa [digB] using this
set_option maxRecDepth 100000 in
set_option maxHeartbeats 4000000 in
theorem number_any (s:Bs) (w:World) (hs:s.length<=140737488355328):Calls Tryz.prog 218 #[.string ⟨s.toArray⟩] w fun e w'=>e=.returned (.tuple #[.int .u64 ((numR s).1:Int),.int .i64 (numR s).2])/\Below w.heap.size w w':=by
 obtain ⟨sb,hsb⟩:∃ sb:ByteArray,(⟨s.toArray⟩:ByteArray)=sb:=⟨_,rfl⟩
 have hsd:s=sb.data.toList:=by rw [<- hsb]
 have hsz:sb.size=s.length:=by rw [<- hsb];exact size_mk s
 rw [hsb,hsd]
 have hs':sb.size<=140737488355328:=by omega
 have hem:=empty_of sb
 have HBAD:=hid (numR_bad sb);have HEQ:=hid (numR_eq sb)
 obtain ⟨R,hR⟩:∃ R,numR sb.data.toList=R:=⟨_,rfl⟩
 rw [hR] at HBAD HEQ ⊢
 clear hsb hsd hsz hs hR
 by_cases h0:sb.size=0
 ·have HB:=hid (HBAD.out (.inl (by omega)))
  rw [show decide (sb.size=0)=true from decide_eq_true (by omega)] at hem
  clear h0 HBAD HEQ
  go_enter Tryz.func218,Tryz.ntmps218
  go_wp2
  go_ret2
  exact ⟨ret_ui (by rw [HB.out];rfl) (by omega),Below.refl _ _⟩
 ·rw [show decide (sb.size=0)=false from decide_eq_false (by omega)] at hem
  by_cases h20:20<sb.size
  ·have HB:=hid (HBAD.out (.inr h20))
   have a0:decide (20<(sb.size:Int))=true:=by simp;omega
   clear h0 h20 HBAD HEQ
   go_enter Tryz.func218,Tryz.ntmps218
   go_wp2
   go_ret2
   exact ⟨ret_ui (by rw [HB.out];rfl) (by omega),Below.refl _ _⟩
  ·have HE:=hid (HEQ.out (by omega) (by omega))
   have a0:decide (20<(sb.size:Int))=false:=by simp;omega
   have h1:0<sb.size:=by omega
   have h2:sb.size<=20:=by omega
   clear h0 h20 HBAD HEQ
   obtain ⟨cap,W1,hby,hbel,hcell⟩:=bytes_of sb w
   have HBEL:=hid hbel;have HCELL:=hid hcell
   clear hbel hcell
   go_enter Tryz.func218,Tryz.ntmps218
   go_wp2
   clear hby
   go_loop [2,3,20] (fun v2 v3 iv=>∃ k:Nat,k<=sb.size/\iv=.int .i64 k/\v2=.int .u64 0/\v3=.int .i64 0/\(sb.data.toList.take k).all digB=true) (fun _ _ iv=>sb.size - (intOf iv).toNat)
   case atStart=>exact ⟨0,Nat.zero_le _,rfl,rfl,rfl,rfl⟩
   case round =>
    obtain ⟨k,hk,rfl,rfl,rfl,hall⟩:=hrel
    by_cases hlt:k<sb.size
    ·have hc:=HCELL.out k hlt
     have hsn:=all_snoc digB sb k hlt
     have hno:=all_not digB sb k hlt
     rw [hall,Bool.true_and] at hsn
     have HSN:=hid hsn;have HNO:=hid hno;have HDG:=hid (digit_any sb[k])
     clear hsn hno hall
     cases hd:digB sb[k] with
     | true =>
      rw [hd] at HDG HSN
      clear hd
      go_wp2_with (go_at_call 216;refine (HDG.out _).mono ?_;rintro e w' ⟨rfl,rfl⟩)
      go_round
      case rel=>exact ⟨k+1,by omega,by go_num,rfl,rfl,HSN.out⟩
      case measure=>simp [intOf];omega
     | false =>
      have HB:=hid (show R=(0,4) from by rw [HE.out,if_neg (by rw [HNO.out hd];decide)])
      rw [hd] at HDG
      clear hd
      go_wp2_with (go_at_call 216;refine (HDG.out _).mono ?_;rintro e w' ⟨rfl,rfl⟩)
      go_ret2
      exact ⟨ret_ui (by rw [HB.out];rfl) (by omega),HBEL.out⟩
    ·obtain rfl:k=sb.size:=by omega
     have hall':=all_full digB sb hall
     have HB:=hid (show R=numGo sb.data.toList 0 from by rw [HE.out,if_pos hall'])
     have HD:=hid (allD sb hall')
     clear hall hall' hk hlt HE
     obtain ⟨cap2,W2,hby2,hbel2,hcell2⟩:=bytes_of sb W1
     have HBEL2:=hid (HBEL.trans (hbel2.mono HBEL.size));have HCELL2:=hid hcell2
     clear hbel2 hcell2
     go_wp2
     clear hby2
     go_loop [2,3,6,31] (fun v2 v3 nv iv=>∃ (k n:Nat),k<=sb.size/\iv=.int .i64 k/\v2=.int .u64 0/\v3=.int .i64 0/\nv=.int .u64 n/\n<=18446744073709551615/\numGo (sb.data.toList.drop k) n=R) (fun _ _ _ iv=>sb.size - (intOf iv).toNat)
     case atStart=>exact ⟨0,0,Nat.zero_le _,rfl,rfl,rfl,rfl,Nat.zero_le _,HB.symm⟩
     case round =>
      obtain ⟨k,n,hk,rfl,rfl,rfl,rfl,hn,hgo⟩:=hrel
      by_cases hlt:k<sb.size
      ·have hc2:=HCELL2.out k hlt
       have hdr:sb.data.toList.drop k=sb[k] :: sb.data.toList.drop (k+1):=List.drop_eq_getElem_cons hlt
       obtain ⟨d1,d2⟩:=HD.out k hlt
       rw [hdr] at hgo
       clear hdr
       unfold numGo at hgo
       generalize hc:sb[k].toNat=c at *
       by_cases hg:(18446744073709551615 - (c - 48)) / 10<n
       ·have hgi:(18446744073709551615 - ((c:Int) - 48)) / 10<(n:Int):=by omega
        rw [if_pos hg] at hgo
        have HGO:=hid hgo
        clear hg hgo hc
        go_wp2
        go_ret2
        exact ⟨ret_ui (by rw [<- HGO.out];rfl) (by omega),HBEL2.out⟩
       ·have hgi:(n:Int)<=(18446744073709551615 - ((c:Int) - 48)) / 10:=by omega
        rw [if_neg hg] at hgo
        have HGO:=hid hgo
        have hg2:10*n+(c - 48)<=18446744073709551615:=by omega
        have HG3:=hid (show (10:Int)*(n:Int)+((c:Int) - 48)=((10*n+(c - 48):Nat):Int) by omega)
        clear hg hgo hc
        go_wp2
        go_round
        case rel=>exact ⟨k+1,10*n+(c - 48),by omega,by go_num,rfl,rfl,by rw [HG3.out],hg2,HGO.out⟩
        case measure=>simp [intOf];omega
      ·obtain rfl:k=sb.size:=by omega
       have HGO:=hid (show (n,(0:Int))=R from by rw [<- hgo,show sb.data.toList.drop sb.size=[] from List.drop_eq_nil_of_le lrf];rfl)
       clear hgo
       go_wp2
       go_ret2
       exact ⟨ret_ui (by rw [<- HGO.out];rfl) (by omega),HBEL2.out⟩
open Go.Lib
def NumA (a:Ag):Prop:=a.num<=18446744073709551615
def NumI (x:In):Prop:=∀ a ∈ x.args,NumA a
def pcN (n:Nat):Nat:=if 33+n % 94=35 then 36 else 33+n % 94
def pw (c:UInt8):Bs:=List.replicate (1+c.toNat / 94) (UInt8.ofNat (pcN c.toNat))
def OkW (n:Nat) (line:Bs) (x:Wd):Prop:=x.2.1=n/\1<=x.2.2/\x.1 <+: line.drop (x.2.2 - 1)
structure LtI (n:Nat) (line pre:Bs) (cur:Option (Bs × Nat)) (acc:List Wd):Prop where
 ok:∀ x ∈ acc,OkW n line x
 inc:acc.Pairwise (fun a b=>a.2.2<b.2.2)
 le:∀ x ∈ acc,x.2.2<=pre.length
 cur:∀ u c,cur=some (u,c)->1<=c/\c<=pre.length/\pre.drop (c - 1)=u/\∀ x ∈ acc,x.2.2<c
theorem LtI.flush {n:Nat} {line pre t:Bs} {cur:Option (Bs × Nat)} {acc:List Wd} (h:LtI n line pre cur acc) (hl:line=pre++t):(∀ x ∈ flushW n cur acc,OkW n line x)/\(flushW n cur acc).Pairwise (fun a b=>a.2.2<b.2.2)/\∀ x ∈ flushW n cur acc,x.2.2<=pre.length:=by
 cases cur with
 | none=>exact ⟨h.ok,h.inc,h.le⟩
 | some q =>
  obtain ⟨u,c⟩:=q
  obtain ⟨h1,h2,h3,h4⟩:=h.cur u c rfl
  refine ⟨fun x hx=>?_,?_,fun x hx=>?_⟩
  ·rcases List.mem_append.1 hx with hx | hx
   ·exact h.ok x hx
   ·obtain rfl:=List.mem_singleton.1 hx
    refine ⟨rfl,h1,?_⟩
    rw [hl,List.drop_append_of_le_length (by show c - 1<=_;omega),show (c:Nat) - 1=c - 1 from rfl]
    show u <+: pre.drop (c - 1)++t
    rw [h3];exact List.prefix_append _ _
  ·refine List.pairwise_append.2 ⟨h.inc,List.pairwise_singleton _ _,fun a ha b hb=>?_⟩
   obtain rfl:=List.mem_singleton.1 hb
   exact h4 a ha
  ·rcases List.mem_append.1 hx with hx | hx
   ·exact h.le x hx
   ·obtain rfl:=List.mem_singleton.1 hx
    exact h2
theorem LtI.sep {n:Nat} {line pre t:Bs} {cur:Option (Bs × Nat)} {acc:List Wd} {c:UInt8} (h:LtI n line pre cur acc) (hl:line=pre++t):LtI n line (pre++[c]) none (flushW n cur acc):=by
 obtain ⟨h1,h2,h3⟩:=h.flush hl
 exact ⟨h1,h2,fun x hx=>by have:=h3 x hx;simp;omega,fun u c e=>by cases e⟩
theorem LtI.grow {n:Nat} {line pre:Bs} {cur:Option (Bs × Nat)} {acc:List Wd} {c:UInt8} (h:LtI n line pre cur acc):LtI n line (pre++[c]) (grow c pre.length cur) acc:=by
 refine ⟨h.ok,h.inc,fun x hx=>by have:=h.le x hx;simp;omega,?_⟩
 cases cur with
 | none =>
  intro u k e
  simp only [Go.Proofs.YtoofbgoeipijcaaGreatDoor.grow,Option.some.injEq,Prod.mk.injEq] at e
  obtain ⟨rfl,rfl⟩:=e
  exact ⟨by omega,by simp,by simp,fun x hx=>by have:=h.le x hx;omega⟩
 | some q =>
  obtain ⟨t,k⟩:=q
  intro u k' e
  simp only [Go.Proofs.YtoofbgoeipijcaaGreatDoor.grow,Option.some.injEq,Prod.mk.injEq] at e
  obtain ⟨rfl,rfl⟩:=e
  obtain ⟨h1,h2,h3,h4⟩:=h.cur t k rfl
  exact ⟨h1,by simp;omega,by rw [List.drop_append_of_le_length (by omega),h3],h4⟩
structure RowOk (rows:List Bs) (n:Nat) (ws:List Wd):Prop where
 ne:ws ≠ []
 at':∃ j,∃ h:j<rows.length,∀ x ∈ ws,OkW (n+j) rows[j] x
 inc:ws.Pairwise (fun a b=>a.2.2<b.2.2)
theorem RowOk.line {rows:List Bs} {n:Nat} {ws:List Wd} (h:RowOk rows n ws):∃ L,n<=L/\∀ x ∈ ws,x.2.1=L:=by
 obtain ⟨_,⟨j,_,h2⟩,_⟩:=h
 exact ⟨n+j,by omega,fun x hx=>(h2 x hx).1⟩
def txts (o:List (List Wd)):List (List Bs):=o.map (·.map (·.1))
def bareI (x:In):In:={ x with pos:=(0,0) }
def bareF (f:Fu):Fu:={ f with code:=f.code.map bareI,pos:=(0,0) }
def bareP (p:Pg):Pg:={ p with funcs:=p.funcs.map bareF,main:=p.main.map bareI }
structure NumP (p:Pg):Prop where
 funcs:∀ f ∈ p.funcs,∀ x ∈ f.code,NumI x
 main:∀ x ∈ p.main,NumI x
theorem bI_kind {x y:In} (h:bareI x=bareI y):x.kind=y.kind:=by have:=congrArg In.kind h;exact this
theorem bI_nm {x y:In} (h:bareI x=bareI y):x.nm=y.nm:=by have:=congrArg In.nm h;exact this
theorem bI_args {x y:In} (h:bareI x=bareI y):x.args=y.args:=by have:=congrArg In.args h;exact this
theorem bF_nm {x y:Fu} (h:bareF x=bareF y):x.nm=y.nm:=by have:=congrArg Fu.nm h;exact this
theorem bF_params {x y:Fu} (h:bareF x=bareF y):x.params=y.params:=by have:=congrArg Fu.params h;exact this
theorem bF_code {x y:Fu} (h:bareF x=bareF y):x.code.map bareI=y.code.map bareI:=by have:=congrArg Fu.code h;exact this
theorem bP_funcs {p q:Pg} (h:bareP p=bareP q):p.funcs.map bareF=q.funcs.map bareF:=by have:=congrArg Pg.funcs h;exact this
theorem bP_main {p q:Pg} (h:bareP p=bareP q):p.main.map bareI=q.main.map bareI:=by have:=congrArg Pg.main h;exact this
theorem bP_width {p q:Pg} (h:bareP p=bareP q):p.width=q.width:=by have:=congrArg Pg.width h;exact this
theorem bP_chans {p q:Pg} (h:bareP p=bareP q):p.chans=q.chans:=by have:=congrArg Pg.chans h;exact this
theorem bP_arrays {p q:Pg} (h:bareP p=bareP q):p.arrays=q.arrays:=by have:=congrArg Pg.arrays h;exact this
theorem chk_decl (q q':Int × Int):∀ (l seen:List Bs),(declM q seen l).map Prod.snd=(declM q' seen l).map Prod.snd
 | [],_=>rfl
 | x :: r,seen=>by
  unfold declM
  split
  ·rfl
  ·split
   ·rfl
   ·exact chk_decl q q' r _
def sndE {α:Type} (x:Except Flt α):Except Int α:=match x with | .error f => .error f.2 | .ok a => .ok a
theorem sndE_ok {α:Type} {x y:Except Flt α} (h:sndE x=sndE y) {a:α} (hx:x=.ok a):y=.ok a:=by
 subst hx
 cases y with
 | error f=>simp [sndE] at h
 | ok b=>simp [sndE] at h;rw [h]
theorem sndE_err {α:Type} {x y:Except Flt α} (h:sndE x=sndE y) {f:Flt} (hx:x=.error f):∃ g,y=.error g/\g.2=f.2:=by
 subst hx
 cases y with
 | error g=>simp [sndE] at h;exact ⟨g,rfl,h.symm⟩
 | ok b=>simp [sndE] at h
theorem chk_step (ch ar:List Bs) (m:Bool) (l s:List Bs) (x y:In) (hxy:bareI x=bareI y):sndE (stepM ch ar m l s x)=sndE (stepM ch ar m l s y):=by
 obtain ⟨k,o,d,n,a,p⟩:=x
 obtain ⟨k',o',d',n',a',p'⟩:=y
 simp only [bareI,In.mk.injEq,and_true] at hxy
 obtain ⟨rfl,rfl,rfl,rfl,rfl⟩:=hxy
 unfold stepM
 rw [show formB ⟨k,o,d,n,a,p⟩=formB ⟨k,o,d,n,a,p'⟩ from rfl]
 simp only
 split
 ·rfl
 ·split
  ·split <;> rfl
  ·split
   ·split <;> rfl
   ·split
    ·split <;> rfl
    ·split
     ·split
      ·rfl
      ·split <;> rfl
     ·rfl
theorem chk_body (ch ar:List Bs) (m:Bool):∀ (c c':List In) (l s:List Bs),c.map bareI=c'.map bareI->sndE (bodyM ch ar m c l s)=sndE (bodyM ch ar m c' l s)
 | [],[],_,_,_=>rfl
 | [],y :: c',_,_,h=>by simp at h
 | x :: c,[],_,_,h=>by simp at h
 | x :: c,y :: c',l,s,h=>by
  simp only [List.map_cons,List.cons.injEq] at h
  unfold bodyM
  have hs:=chk_step ch ar m l s x y h.1
  cases e:stepM ch ar m l s x with
  | error f =>
   obtain ⟨g,hg,hgf⟩:=sndE_err hs e
   rw [hg];simp [sndE,hgf]
  | ok q =>
   rw [sndE_ok hs e]
   exact chk_body ch ar m c c' _ _ h.2
theorem chk_ins (ch ar:List Bs) (m:Bool) (q q':Int × Int) (c c':List In) (s:List Bs) (h:c.map bareI=c'.map bareI):sndE (instrsM ch ar m q c s)=sndE (instrsM ch ar m q' c' s):=by
 have hl:c.length=c'.length:=by simpa using congrArg List.length h
 unfold instrsM
 rw [hl]
 split
 ·rfl
 ·exact chk_body ch ar m c c' [] s h
theorem chk_funcs (ch ar:List Bs):∀ (l l':List Fu) (seen:List Bs) (ls:List (List Bs)) (s:List Bs),l.map bareF=l'.map bareF->sndE (funcsM ch ar seen ls s l)=sndE (funcsM ch ar seen ls s l')
 | [],[],_,_,_,_=>rfl
 | [],y :: c',_,_,_,h=>by simp at h
 | x :: c,[],_,_,_,h=>by simp at h
 | ⟨nm,ps,cd,pos⟩ :: l,⟨nm',ps',cd',pos'⟩ :: l',seen,ls,s,h=>by
  simp only [List.map_cons,List.cons.injEq,bareF,Fu.mk.injEq,and_true] at h
  obtain ⟨⟨rfl,rfl,hcd⟩,hl⟩:=h
  unfold funcsM
  simp only
  split
  ·rfl
  ·split
   ·rfl
   ·split
    ·rfl
    ·have hd:=chk_decl pos pos' ps []
     cases e:declM pos [] ps with
     | some f =>
      rw [e] at hd
      cases e':declM pos' [] ps with
      | none=>rw [e'] at hd;simp at hd
      | some g=>rw [e'] at hd;simp at hd;simp [sndE,hd]
     | none =>
      rw [e] at hd
      cases e':declM pos' [] ps with
      | some g=>rw [e'] at hd;simp at hd
      | none =>
       simp only
       have hi:=chk_ins ch ar false pos pos' cd cd' s hcd
       cases e2:instrsM ch ar false pos cd s with
       | error f =>
        obtain ⟨g,hg,hgf⟩:=sndE_err hi e2
        rw [hg];simp [sndE,hgf]
       | ok q =>
        rw [sndE_ok hi e2]
        exact chk_funcs ch ar l l' _ _ _ hl
theorem bare_find (p q:Pg) (h:p.funcs.map bareF=q.funcs.map bareF) (s:Bs):((p.funcs.find? fun f=>decide (f.nm=s)).map bareF)=((q.funcs.find? fun f=>decide (f.nm=s)).map bareF):=by
 have key:∀ l:List Fu,((l.find? fun f=>decide (f.nm=s)).map bareF)=(l.map bareF).find? fun f=>decide (f.nm=s):=by
  intro l
  induction l with
  | nil=>rfl
  | cons f r ih =>
   rw [List.map_cons,List.find?_cons,List.find?_cons]
   show Option.map bareF (match decide (f.nm=s) with | true=>some f | false=>r.find? fun f=>decide (f.nm=s))=match decide (f.nm=s) with | true=>some (bareF f) | false=>(r.map bareF).find? fun f=>decide (f.nm=s)
   cases decide (f.nm=s)
   ·exact ih
   ·rfl
 rw [key,key,h]
theorem bare_params (p q:Pg) (h:p.funcs.map bareF=q.funcs.map bareF) (s:Bs):paramsOf p s=paramsOf q s:=by
 have:=congrArg (Option.map fun f:Fu=>f.params.length) (bare_find p q h s)
 simp only [Option.map_map] at this
 exact this
theorem bare_code (p q:Pg) (h:p.funcs.map bareF=q.funcs.map bareF) (s:Bs):callsM (codeOf p s)=callsM (codeOf q s):=by
 have hb:=bare_find p q h s
 unfold codeOf
 have hc:∀ c c':List In,c.map bareI=c'.map bareI->callsM c=callsM c':=by
  intro c
  induction c with
  | nil=>intro c' h;cases c' with | nil=>rfl | cons y r=>simp at h
  | cons x r ih =>
   intro c' h
   cases c' with
   | nil=>simp at h
   | cons y r' =>
    simp only [List.map_cons,List.cons.injEq] at h
    have hk:x.kind=y.kind:=bI_kind h.1
    have hn:x.nm=y.nm:=bI_nm h.1
    have:=ih r' h.2
    unfold callsM at this ⊢
    simp only [List.filter_cons,hk]
    split
    ·rw [List.map_cons,List.map_cons,this,hn]
    ·exact this
 cases e:(p.funcs.find? fun f=>decide (f.nm=s)) with
 | none =>
  rw [e] at hb
  cases e':(q.funcs.find? fun f=>decide (f.nm=s)) with
  | none=>rfl
  | some g=>rw [e'] at hb;simp at hb
 | some f =>
  rw [e] at hb
  cases e':(q.funcs.find? fun f=>decide (f.nm=s)) with
  | none=>rw [e'] at hb;simp at hb
  | some g =>
   rw [e'] at hb
   simp only [Option.map_some,Option.some.injEq] at hb
   exact hc _ _ (bF_code hb)
theorem bare_loop (p q:Pg) (h:p.funcs.map bareF=q.funcs.map bareF) (s:Bs):loopB p s=loopB q s:=by
 have hl:p.funcs.length=q.funcs.length:=by simpa using congrArg List.length h
 have:∀ n seen todo,loopsM p s n seen todo=loopsM q s n seen todo:=by
  intro n
  induction n with
  | zero=>intro seen todo;rfl
  | succ n ih =>
   intro seen todo
   unfold loopsM
   rw [bare_code p q h]
   split
   ·rfl
   ·simp only
    split
    ·rfl
    ·exact ih _ _
 unfold loopB
 rw [hl,this]
theorem chk_target (p q:Pg) (h:p.funcs.map bareF=q.funcs.map bareF) (l:List Bs) (x y:In) (hxy:bareI x=bareI y):(targetM p l x).map Prod.snd=(targetM q l y).map Prod.snd:=by
 have hk:x.kind=y.kind:=bI_kind hxy
 have hn:x.nm=y.nm:=bI_nm hxy
 have ha:x.args=y.args:=bI_args hxy
 unfold targetM
 rw [hk,hn,ha,bare_params p q h]
 split
 ·split <;> rfl
 ·split
  ·split
   ·rfl
   ·split <;> rfl
  ·rfl
theorem chk_targets (p q:Pg) (h:p.funcs.map bareF=q.funcs.map bareF) (l:List Bs):∀ c c':List In,c.map bareI=c'.map bareI->(targetsM p l c).map Prod.snd=(targetsM q l c').map Prod.snd
 | [],[],_=>rfl
 | [],y :: c',h=>by simp at h
 | x :: c,[],h=>by simp at h
 | x :: c,y :: c',hc=>by
  simp only [List.map_cons,List.cons.injEq] at hc
  have ht:=chk_target p q h l x y hc.1
  unfold targetsM
  cases e:targetM p l x with
  | some f =>
   rw [e] at ht
   cases e':targetM q l y with
   | none=>rw [e'] at ht;simp at ht
   | some g=>rw [e'] at ht;exact ht
  | none =>
   rw [e] at ht
   cases e':targetM q l y with
   | some g=>rw [e'] at ht;simp at ht
   | none=>exact chk_targets p q h l c c' hc.2
theorem chk_later (p q:Pg) (h:p.funcs.map bareF=q.funcs.map bareF):∀ (l l':List Fu) (ls:List (List Bs)),l.map bareF=l'.map bareF->(laterM p ls l).map Prod.snd=(laterM q ls l').map Prod.snd
 | [],[],_,_=>rfl
 | [],y :: c',_,h=>by simp at h
 | x :: c,[],_,h=>by simp at h
 | x :: c,y :: c',ls,hc=>by
  simp only [List.map_cons,List.cons.injEq] at hc
  have ht:=chk_targets p q h (ls.headD []) x.code y.code (bF_code hc.1)
  unfold laterM
  cases e:targetsM p (ls.headD []) x.code with
  | some f =>
   rw [e] at ht
   cases e':targetsM q (ls.headD []) y.code with
   | none=>rw [e'] at ht;simp at ht
   | some g=>rw [e'] at ht;exact ht
  | none =>
   rw [e] at ht
   cases e':targetsM q (ls.headD []) y.code with
   | some g=>rw [e'] at ht;simp at ht
   | none=>exact chk_later p q h c c' _ hc.2
theorem chk_loops (p q:Pg) (h:p.funcs.map bareF=q.funcs.map bareF):∀ (l l':List Fu),l.map bareF=l'.map bareF->(loopsAllM p l).map Prod.snd=(loopsAllM q l').map Prod.snd
 | [],[],_=>rfl
 | [],y :: c',h=>by simp at h
 | x :: c,[],h=>by simp at h
 | x :: c,y :: c',hc=>by
  simp only [List.map_cons,List.cons.injEq] at hc
  unfold loopsAllM
  rw [show x.nm=y.nm from bF_nm hc.1,bare_loop p q h]
  split
  ·rfl
  ·exact chk_loops p q h c c' hc.2
theorem check_bare (p q:Pg) (h:bareP p=bareP q):(checkM p).2=(checkM q).2:=by
 have hf:p.funcs.map bareF=q.funcs.map bareF:=bP_funcs h
 have hm:p.main.map bareI=q.main.map bareI:=bP_main h
 have hw:p.width=q.width:=bP_width h
 have hc:p.chans=q.chans:=bP_chans h
 have ha:p.arrays=q.arrays:=bP_arrays h
 have hl:p.funcs.length=q.funcs.length:=by simpa using congrArg List.length hf
 unfold checkM
 rw [hw,hc,ha,hl]
 split
 ·rfl
 ·split
  ·rfl
  ·split
   ·rfl
   ·split
    ·rfl
    ·split
     ·rfl
     ·split
      ·rfl
      ·have h1:=chk_funcs q.chans (q.arrays.map Ar.nm) p.funcs q.funcs [] [] [] hf
       cases e:funcsM q.chans (q.arrays.map Ar.nm) [] [] [] p.funcs with
       | error f =>
        obtain ⟨g,hg,hgf⟩:=sndE_err h1 e
        rw [hg];exact hgf.symm
       | ok x =>
        rw [sndE_ok h1 e]
        obtain ⟨ls,s1⟩:=x
        simp only
        have h2:=chk_ins q.chans (q.arrays.map Ar.nm) true (0,0) (0,0) p.main q.main s1 hm
        cases e2:instrsM q.chans (q.arrays.map Ar.nm) true (0,0) p.main s1 with
        | error f =>
         obtain ⟨g,hg,hgf⟩:=sndE_err h2 e2
         rw [hg];exact hgf.symm
        | ok x =>
         rw [sndE_ok h2 e2]
         obtain ⟨ml,s2⟩:=x
         simp only
         have h3:=chk_later p q hf p.funcs q.funcs ls hf
         cases e3:laterM p ls p.funcs with
         | some f =>
          rw [e3] at h3
          cases e':laterM q ls q.funcs with
          | none=>rw [e'] at h3;simp at h3
          | some g=>rw [e'] at h3;simpa using h3
         | none =>
          rw [e3] at h3
          cases e':laterM q ls q.funcs with
          | some g=>rw [e'] at h3;simp at h3
          | none =>
           simp only
           have h4:=chk_targets p q hf ml p.main q.main hm
           cases e4:targetsM p ml p.main with
           | some f =>
            rw [e4] at h4
            cases e':targetsM q ml q.main with
            | none=>rw [e'] at h4;simp at h4
            | some g=>rw [e'] at h4;simpa using h4
           | none =>
            rw [e4] at h4
            cases e':targetsM q ml q.main with
            | some g=>rw [e'] at h4;simp at h4
            | none =>
             simp only
             have h5:=chk_loops p q hf p.funcs q.funcs hf
             cases e5:loopsAllM p p.funcs with
             | some f =>
              rw [e5] at h5
              cases e':loopsAllM q q.funcs with
              | none=>rw [e'] at h5;simp at h5
              | some g=>rw [e'] at h5;simpa using h5
             | none =>
              rw [e5] at h5
              cases e':loopsAllM q q.funcs with
              | some g=>rw [e'] at h5;simp at h5
              | none=>rfl
end Go.Proofs.YtoofbgoeipijcaaGreatDoor
