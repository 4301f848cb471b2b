/-
 A part.
-/
import Derived.Test.YtoofbgoeipijcaaGreatDoorWSPrX
import Derived.Test.YtoofbgoeipijcaaGreatDoorWB33
namespace Go.Proofs.YtoofbgoeipijcaaGreatDoor
set_option maxRecDepth 100000
set_option maxHeartbeats 4000000
set_option linter.all false
open Go.RowKit Go.Shelf
attribute [local go_sem] Oper.semAt_some
theorem textT_app (a b:List Bs):textT (a++b)=textT a++textT b:=by unfold textT;rw [List.flatMap_append]
theorem textT_one (s:Bs):textT [s]=s++[10]:=by simp [textT]
theorem textT_len:∀ (l:List Bs) (m:Nat),(∀ s ∈ l,s.length<=m)->(textT l).length<=l.length*(m+1)
 | [],m,_=>by simp [textT]
 | s :: r,m,h=>by
  have h1:=h s (List.mem_cons_self ..)
  have h2:=textT_len r m fun t ht=>h t (List.mem_cons_of_mem _ ht)
  have e:textT (s :: r)=s++[10]++textT r:=by simp [textT]
  have e2:(s :: r).length*(m+1)=r.length*(m+1)+(m+1):=by rw [List.length_cons,Nat.succ_mul]
  rw [e,e2,List.length_append,List.length_append]
  simp only [List.length_cons,List.length_nil]
  omega
theorem words_len (x:In) (h:FormS x.kind x.op x.dst x.nm x.args):(wordsM x).length<=40/\∀ s ∈ wordsM x,s.length<=32:=by
 have ha:∀ s ∈ x.args.map argT,s.length<=32:=fun s hs=>by obtain ⟨a,ha,rfl⟩:=List.mem_map.1 hs;exact h.each a ha
 have hl:(x.args.map argT).length<=32:=by rw [List.length_map];exact h.alen
 have hk:=h.kd
 have hd:=h.dlen
 have hn:=h.nlen
 unfold wordsM
 split
 all_goals (refine ⟨by simp only [List.length_cons,List.length_append,List.length_nil];omega,fun s hs=>?_⟩)
 all_goals simp only [List.mem_cons,List.mem_append,List.not_mem_nil,or_false] at hs
 ·rcases hs with rfl | rfl | hs
  ·exact hd
  ·decide
  ·exact ha s hs
 ·rcases hs with rfl | rfl | rfl | hs
  ·exact hd
  ·decide
  ·exact h.olen (by assumption)
  ·exact ha s hs
 ·rcases hs with rfl | rfl | rfl | rfl | hs
  ·exact hd
  ·decide
  ·decide
  ·exact hn
  ·exact ha s hs
 ·rcases hs with rfl | rfl | hs
  ·decide
  ·exact hn
  ·exact ha s hs
 ·rcases hs with rfl | rfl | rfl | rfl | hs
  ·exact hd
  ·decide
  ·decide
  ·exact hn
  ·exact ha s hs
 ·rcases hs with rfl | rfl | rfl
  ·decide
  ·exact hd
  ·exact hn
 ·rcases hs with rfl | rfl | hs
  ·decide
  ·exact hn
  ·exact ha s hs
 ·rcases hs with rfl | rfl | rfl | rfl | hs
  ·exact hd
  ·decide
  ·decide
  ·exact hn
  ·exact ha s hs
 ·rcases hs with rfl | rfl | hs
  ·decide
  ·exact hn
  ·exact ha s hs
 ·rcases hs with rfl | hs | rfl
  ·decide
  ·exact ha s hs
  ·exact hn
 ·rcases hs with rfl
  decide
 ·rcases hs with rfl | hs
  ·decide
  ·exact ha s hs
theorem line_len (x:In) (h:formB x=true) (hn:∀ a ∈ x.args,a.num<18446744073709551616):(lineM x).length<=2000:=by
 have hf:=form_s h hn
 unfold lineM
 split
 ·have:=hf.nlen
  rw [List.length_append];simp only [List.length_cons,List.length_nil];omega
 ·obtain ⟨h1,h2⟩:=words_len x hf
  exact Nat.le_trans (jn_len _ 32 h2) (by omega)
theorem body_len (l:List In) (hl:l.length<=1024) (h:∀ x ∈ l,formB x=true) (hn:∀ x ∈ l,∀ a ∈ x.args,a.num<18446744073709551616):(bodyT l).length<=1025/\∀ s ∈ bodyT l,s.length<=2000:=by
 unfold bodyT
 refine ⟨by rw [List.length_append,List.length_map];simp only [List.length_cons,List.length_nil];omega,fun s hs=>?_⟩
 rcases List.mem_append.1 hs with hs | hs
 ·obtain ⟨x,hx,rfl⟩:=List.mem_map.1 hs
  exact line_len x (h x hx) (hn x hx)
 ·rw [List.mem_singleton.1 hs];decide
theorem itoa_short (n:Int) (h0:1<=n) (h1:n<=64):(Lib.itoa n).length<=21:=Lib.itoa_length_le n (by omega) (by omega)
theorem flat_len:∀ (l:List Fu) (m:Nat),(∀ f ∈ l,(funcT f).length<=m)->(l.flatMap funcT).length<=l.length*m
 | [],m,_=>by simp
 | f :: r,m,h=>by
  have h1:=h f (List.mem_cons_self ..)
  have h2:=flat_len r m fun t ht=>h t (List.mem_cons_of_mem _ ht)
  rw [List.flatMap_cons,List.length_append,List.length_cons,Nat.succ_mul]
  omega
theorem lines_len (p:Pg) (h:(checkM p).2=0) (hn:NumP p):(linesT p).length<=40000/\∀ s ∈ linesT p,s.length<=2000:=by
 obtain ⟨ls,s1,ml,s2,⟨hw1,hw2⟩,c2,hch,c3,har,c4,hf,c5,hm⟩:=check_parts p h
 have hff:=funcs_form _ _ _ _ _ _ hf
 have hmm:=body_form _ _ _ _ _ hm
 have hj2:∀ (L:List Bs) (m:Nat),L.length<=m->m<=36->(∀ s ∈ L,s.length<=32)->(jn L).length<=2000:=fun L m h1 h2 h3=>Nat.le_trans (jn_len L 32 h3) (by have h4:L.length<=36:=(by omega);omega)
 have hfl:∀ f ∈ p.funcs,(funcT f).length<=1026/\∀ s ∈ funcT f,s.length<=2000:=fun f hfm=>by
  obtain ⟨f1,f2,f3,f4,f5⟩:=hff f hfm
  obtain ⟨b1,b2⟩:=body_len f.code f4 f5 (fun x hx a ha=>by have:a.num<=18446744073709551615:=hn.funcs f hfm x hx a ha;omega)
  unfold funcT
  refine ⟨by rw [List.length_cons];omega,fun s hs=>?_⟩
  rcases List.mem_cons.1 hs with rfl | hs
  ·refine hj2 _ (2+f.params.length) (by simp only [List.length_cons];omega) (by omega) fun s hs=>?_
   simp only [List.mem_cons] at hs
   rcases hs with rfl | rfl | hs
   ·decide
   ·exact named_len f1
   ·exact named_len (f2 s hs)
  ·exact b2 s hs
 obtain ⟨m1,m2⟩:=body_len p.main c5 hmm fun x hx a ha=>by have:a.num<=18446744073709551615:=hn.main x hx a ha;omega
 unfold linesT
 constructor
 ·have:=flat_len p.funcs 1026 fun f hf=>(hfl f hf).1
  have:p.funcs.length*1026<=32*1026:=Nat.mul_le_mul_right _ c4
  simp only [List.cons_append,List.append_assoc,List.length_cons,List.length_append,List.length_map]
  omega
 ·intro s hs
  simp only [List.cons_append,List.append_assoc,List.mem_cons,List.mem_append,List.mem_map,List.mem_flatMap] at hs
  rcases hs with rfl | ⟨c,hc,rfl⟩ | ⟨a,ha,rfl⟩ | ⟨f,hf',hk⟩ | rfl | hk
  ·refine hj2 _ 2 (by simp) (by omega) fun s hs=>?_
   simp only [List.mem_cons,List.not_mem_nil,or_false] at hs
   rcases hs with rfl | rfl
   ·decide
   ·exact Nat.le_trans (itoa_short _ hw1 hw2) (by omega)
  ·refine hj2 _ 2 (by simp) (by omega) fun s hs=>?_
   simp only [List.mem_cons,List.not_mem_nil,or_false] at hs
   rcases hs with rfl | rfl
   ·decide
   ·exact named_len (decl_named _ _ _ hch _ hc)
  ·obtain ⟨a1,a2,a3⟩:=arrs_named _ _ har a ha
   refine hj2 _ 3 (by simp) (by omega) fun s hs=>?_
   simp only [List.mem_cons,List.not_mem_nil,or_false] at hs
   rcases hs with rfl | rfl | rfl
   ·decide
   ·exact named_len a1
   ·exact Nat.le_trans (itoa_short _ a2 a3) (by omega)
  ·exact (hfl f hf').2 s hk
  ·decide
  ·exact m2 s hk
theorem prefix_text {a b:List Bs} (h:a <+: b):(textT a).length<=(textT b).length:=by
 obtain ⟨r,rfl⟩:=h
 rw [textT_app,List.length_append];omega
theorem part_len {p:Pg} (h:(checkM p).2=0) (hn:NumP p) {a:List Bs} (ha:a <+: linesT p):(textT a).length<=100000000:=by
 obtain ⟨h1,h2⟩:=lines_len p h hn
 have h3:=textT_len _ _ h2
 have h4:(linesT p).length*(2000+1)<=40000*2001:=Nat.mul_le_mul_right _ h1
 have h5:=prefix_text ha
 omega
theorem take_pre {α β:Type} (f:α->β) (H:List β) (l:List α) (k:Nat):H++(l.take k).map f <+: H++l.map f:=by
 rw [List.prefix_append_right_inj]
 exact ⟨(l.drop k).map f,by rw [<- List.map_append,List.take_append_drop]⟩
theorem take_preF (H:List Bs) (l:List Fu) (k:Nat):H++(l.take k).flatMap funcT <+: H++l.flatMap funcT:=by
 rw [List.prefix_append_right_inj]
 exact ⟨(l.drop k).flatMap funcT,by rw [<- List.flatMap_append,List.take_append_drop]⟩
theorem rowF_keep {w w':World} {base e size n:Nat} {v:Value} {xs:List Value} (h:w.ownsRowF base e size v n xs) (hf:∀ k,k<w.heap.size->w'.heap[k]?=w.heap[k]?):w'.ownsRowF base e size v n xs:=by
 obtain ⟨hl,h | ⟨g,cap,cur,fz,hv,hB,hg,hr⟩⟩:=h
 ·exact ⟨hl,.inl h⟩
 ·exact ⟨hl,.inr ⟨g,cap,cur,fz,hv,hB,(hf g (Array.getElem?_eq_some_iff.1 hg).1).trans hg,hr⟩⟩
theorem isb_keep {w w':World} {T e B b:Nat} {bs:List Value} (h:Lib.IsBuilderF T e B b bs w) (hb:Below w.heap.size w w'):Lib.IsBuilderF T e B b bs w':=by
 have key:∀ p,Lib.BuilderAtF T e B b p bs w->Lib.BuilderAtF T e B b p bs w':=fun p h=>by
  obtain ⟨h1,v,h2,h3,h4⟩:=h
  exact ⟨h1,v,(hb.block b (Array.getElem?_eq_some_iff.1 h2).1).trans h2,rowF_keep h3 fun k hk=>hb.block k hk,h4⟩
 exact h.imp (key _) (key _)
theorem isb_lt {w:World} {T e B b:Nat} {bs:List Value} (h:Lib.IsBuilderF T e B b bs w):b<w.heap.size:=h.elim (·.lt) (·.lt)
theorem isb_new (w:World) (T e b:Nat) (hb:w.heap[b]?=some (.cells #[.pointer none,.slice none 0 0] T (0,0))):Lib.IsBuilderF T e b b (Lib.byteCells []) w :=
 .inl ⟨Nat.le_refl _,.slice none 0 0,hb,World.ownsRowF_nil _ _ _ _,by simp [Value.ownBlock]⟩
theorem others_below {e:TypeId} {b:Option Nat} {w w':World} (h:Below w.heap.size w w'):Lib.OthersKept e b w w':=fun k o hk _ _=>(h.block k (Array.getElem?_eq_some_iff.1 hk).1).trans hk
theorem kept_box {e t:TypeId} {b k:Nat} {w w':World} {cs:List Value} (h:Lib.OthersKept e (some b) w w') (hx:BxL t k cs w) (hb:k ≠ b) (ht:t ≠ e):BxL t k cs w':=h k _ hx (fun e=>hb (by injection e)) (fun c fz e=>ht (by cases e;rfl))
theorem bwrite_any (b:Nat) (l r:Bs) (s:ByteArray) (w:World) (hs:s=⟨r.toArray⟩) (h:Lib.IsBuilderF 79 5 b b (Lib.byteCells (l)) w) (hlen:l.length+r.length<=140737488355328) :
  Calls Tryz.prog 46 #[.pointer (some ⟨b,0,none⟩),.string s] w fun e w'=>(∃ v,e=.returned v)/\Lib.IsBuilderF 79 5 b b (Lib.byteCells (l++r)) w'/\Below b w w'/\Lib.OthersKept 5 (some b) w w':=by
 subst hs
 have h1:=Any.Builder_WriteString_k (P:=Tryz.prog) { Tryz.lays156 with } Tryz.Builder_Extra_156 b b (Lib.byteCells l) ⟨r.toArray⟩ w h (by rw [Lib.byteCells_length];exact hlen) (Nat.le_of_lt (isb_lt h))
 refine h1.mono fun e w' h=>⟨⟨_,h.1⟩,?_,h.2.2.1,h.2.2.2⟩
 rw [Lib.byteCells_append]
 exact .inr h.2.1
theorem put_line (b:Nat) (L ws:List Bs) (v:Value) (w:World) (hb:Lib.IsBuilderF 79 5 b b (Lib.byteCells (textT L)) w) (h:SlG kStr (·<w.heap.size) w v ws) (hlen:(textT (L++[jn ws])).length<=140737488355328) :
  Calls Tryz.prog 45 #[v,.pointer (some ⟨b,0,none⟩)] w fun e w'=>e=.returned (.tuple #[])/\Lib.IsBuilderF 79 5 b b (Lib.byteCells (textT (L++[jn ws]))) w'/\Below b w w'/\Lib.OthersKept 5 (some b) w w':=by
 obtain ⟨p,c,rfl⟩:=h.slc
 have HE:=hid (show textT (L++[jn ws])=textT L++(jn ws++[10]) from by rw [textT_app,textT_one])
 rw [HE.out] at hlen ⊢
 rw [List.length_append,List.length_append] at hlen
 simp only [List.length_cons,List.length_nil] at hlen
 obtain ⟨J,hJ⟩:∃ J,jn ws=J:=⟨_,rfl⟩
 obtain ⟨O,hO⟩:∃ O,textT L=O:=⟨_,rfl⟩
 rw [hJ] at hlen
 rw [hO] at hlen hb
 rw [hJ,hO]
 have HJ:=hid hJ;have HL:=hid hlen;have HS:=hid h;have HB:=hid hb
 have hk1:¬ 9223372036854775807<J.length+1:=by omega
 clear hJ hlen h hb hO HE
 go_enter Tryz.func45,Tryz.ntmps45
 go_wp2_with (first
  | (go_at_call 36;(refine (joinS_any ws _ _ _ HS.out (fun _ h=>h) (by rw [HJ.out];have:=HL.out;omega)).mono ?_);rintro e w1 ⟨rfl,hb1⟩;rw [HJ.out];have HB1:=hid (isb_keep HB.out hb1);have HW1:=hid hb1;clear hb1)
  | (go_at_call 46;(refine (bwrite_any b O (J++[10]) _ _ (by rw [ByteArray.mk_append_mk]) HB1.out (by rw [List.length_append];have:=HL.out;simp only [List.length_cons,List.length_nil];omega)).mono ?_);rintro e w2 ⟨⟨v2,rfl⟩,hb2,hw2,hk2⟩;have HB2:=hid hb2;have HW2:=hid hw2;have HK2:=hid hk2;clear hb2 hw2 hk2))
 go_end0
 exact ⟨rfl,HB2.out,(HW1.mono (Nat.le_of_lt (isb_lt HB.out))).trans HW2.out,(others_below HW1.out).trans HK2.out⟩
theorem alone_any (x:In) (v:Value) (w:World) (h:SlG kAg (·<w.heap.size) w v x.args) :
  Calls Tryz.prog 95 #[.agg #[.int .u8 (x.kind:Int),.int .u8 (x.op:Int),.string ⟨x.dst.toArray⟩,.string ⟨x.nm.toArray⟩,v,.int .i64 x.pos.1,.int .i64 x.pos.2]] w fun e w' =>
   ∃ bi bf,w.heap.size<=bi/\w.heap.size<=bf/\bi ≠ bf/\e=.returned (.agg #[.int .i64 1,.slice none 0 0,.slice none 0 0,.slice (some ⟨bf,0,none⟩) 1 1,.slice none 0 0]) /\
    BxL 41 bi (inL { x with pos:=(1,1) } v) w'/\BxL 74 bf [.string ⟨#[102]⟩,.slice none 0 0,.slice (some ⟨bi,0,none⟩) 1 1,.int .i64 0,.int .i64 0] w'/\Below w.heap.size w w':=by
 obtain ⟨pa,ca,rfl⟩:=h.slc
 clear h
 go_enter Tryz.func95,Tryz.ntmps95
 go_wp2_with fail
 refine bodyPost_ret (v := .agg #[.int .i64 1,.slice none 0 0,.slice none 0 0,.slice (some ⟨w.heap.size+1+1+1,0,none⟩) 1 1,.slice none 0 0]) (by simp [results,Tryz.results95,go_sem]) rfl ?_
 have h1:=BxL.new 41 ((w.alloc (.cells #[.int .u8 (x.kind:Int),.int .u8 (x.op:Int),.string ⟨x.dst.toArray⟩,.string ⟨x.nm.toArray⟩,.slice pa x.args.length ca,.int .i64 1,.int .i64 1] 41)).alloc (.cells #[.int .i64 1,.slice none 0 0,.slice none 0 0,.slice (some ⟨w.heap.size+1+1+1,0,none⟩) 1 1,.slice none 0 0] 27)) (inL { x with pos:=(1,1) } (.slice pa x.args.length ca))
 have h2:=BxL.new 74 (((w.alloc (.cells #[.int .u8 (x.kind:Int),.int .u8 (x.op:Int),.string ⟨x.dst.toArray⟩,.string ⟨x.nm.toArray⟩,.slice pa x.args.length ca,.int .i64 1,.int .i64 1] 41)).alloc (.cells #[.int .i64 1,.slice none 0 0,.slice none 0 0,.slice (some ⟨w.heap.size+1+1+1,0,none⟩) 1 1,.slice none 0 0] 27)).alloc (.cells (inL { x with pos:=(1,1) } (.slice pa x.args.length ca)).toArray 41)) [.string ⟨#[102]⟩,.slice none 0 0,.slice (some ⟨w.heap.size+1+1,0,none⟩) 1 1,.int .i64 0,.int .i64 0]
 simp only [sA] at h1 h2
 refine ⟨w.heap.size+1+1,w.heap.size+1+1+1,by omega,by omega,by omega,rfl,h1.al _,h2,?_⟩
 exact (((bA).alloc (by simp only [sA];omega) _).alloc (by simp only [sA];omega) _).alloc (by simp only [sA];omega) _
end Go.Proofs.YtoofbgoeipijcaaGreatDoor
