/-
 A part.
-/
import Derived.Test.YtoofbgoeipijcaaGreatDoorVB12
import Derived.Lib.ItoaLen
namespace Go.Proofs.YtoofbgoeipijcaaGreatDoor
set_option maxRecDepth 100000
set_option maxHeartbeats 4000000
set_option linter.all false
open Go.RowKit Go.Shelf
attribute [local go_sem] Oper.semAt_some
theorem jn_len (l:List Bs) (m:Nat) (h:∀ s ∈ l,s.length<=m):(jn l).length<=l.length*(m+1):=by
 rcases l with _ | ⟨x,r⟩
 ·exact Nat.zero_le _
 have ht:∀ r:List Bs,(∀ s ∈ r,s.length<=m)->(Lib.joinTail [32] r).length<=r.length*(m+1):=by
  intro r
  induction r with
  | nil=>intro _;exact Nat.zero_le _
  | cons y r ih =>
   intro hr
   have h1:=ih fun s hs=>hr s (List.mem_cons_of_mem _ hs)
   have h2:=hr y (List.mem_cons_self ..)
   unfold Lib.joinTail at h1 ⊢
   have e:(y :: r).length*(m+1)=r.length*(m+1)+(m+1):=by rw [List.length_cons,Nat.succ_mul]
   have e1:([32]:Bs).length=1:=rfl
   rw [List.map_cons,List.flatten_cons,List.length_append,List.length_append,e]
   omega
 unfold jn
 rw [Lib.join_cons,List.length_append,List.length_cons,Nat.succ_mul]
 have h1:=ht r fun s hs=>h s (List.mem_cons_of_mem _ hs)
 have h2:=h x (List.mem_cons_self ..)
 omega
theorem named_len {s:Bs} (h:namedB s=true):s.length<=32:=by
 unfold namedB nameB at h
 simp only [Bool.and_eq_true,decide_eq_true_eq] at h
 exact h.1.1.1.1.2
theorem field_len {f:Bool} {s:Bs} (h:fieldB f s=true):s.length<=32:=by
 unfold fieldB at h
 split at h
 ·exact named_len h
 ·have:s=[]:=by simpa using h
  rw [this];decide
theorem opN_T:∀ o,o<21->2<=o->(opNameM o).1=opT o:=by decide
theorem opT_len:∀ o,o<23->(opT o).length<=32:=by decide
structure FormS (kind op:Nat) (dst nm:Bs) (args:List Ag):Prop where
 kd:kind<13
 dlen:dst.length<=32
 nlen:nm.length<=32
 alen:args.length<=32
 each:∀ a ∈ args,(argT a).length<=32
 olen:kind=1->(opT op).length<=32
 opr:kind=1->2<=op/\op<=20
theorem form_s {x:In} (h:formB x=true) (hn:∀ a ∈ x.args,a.num<18446744073709551616):FormS x.kind x.op x.dst x.nm x.args:=by
 unfold formB at h
 simp only [Bool.and_eq_true,decide_eq_true_eq] at h
 obtain ⟨⟨⟨⟨⟨⟨h1,h2⟩,h3⟩,h4⟩,_⟩,h6⟩,h7⟩:=h
 have hop:x.kind=1->2<=x.op/\x.op<=20:=fun hk=>by
  unfold opOkB at h2
  rw [if_pos hk] at h2
  simpa using h2
 refine ⟨h1,field_len h3,field_len h4,h6,fun a ha=>?_,fun hk=>opT_len _ (by have:=hop hk;omega),hop⟩
 have h8:=List.all_eq_true.1 h7 a ha
 unfold argT
 split
 ·rw [Lib.decDigits_length];have:=Lib.nDigits_le20 a.num (hn a ha);omega
 ·rename_i h9
  unfold argB at h8
  simp only [h9,decide_false,Bool.false_or,Bool.and_eq_true] at h8
  exact named_len h8.1
theorem words_lit (L:List Bs) (l:List Ag) (v:Value) (B:Nat) (w W:World) (hb:Below B w W) (hB:w.heap.size=B) (h:SlG kAg (·<w.heap.size) w v l) (hE:PrE w) (h0:L ≠ []) (hL:L.length<=4) (hLs:∀ s ∈ L,s.length<=32) (hl:l.length<=32) (hn:∀ a ∈ l,a.num<18446744073709551616) (hs:∀ a ∈ l,(argT a).length<=32) :
  Calls Tryz.prog 89 #[v,.slice (some ⟨W.heap.size,0,none⟩) L.length L.length] (W.alloc (.cells (L.map sv).toArray 9)) fun e w'=>e=.returned (.string ⟨(jn (L++l.map argT)).toArray⟩)/\Below B w w':=by
 subst hB
 have hb2:Below w.heap.size w (W.alloc (.cells (L.map sv).toArray 9)):=hb.alloc hb.size _
 refine (words_any L l v _ w.heap.size _ (GA.litS W 9 L h0 (by omega) hb.size) hb2.size (by omega) (h.below hb2) (by omega) hn (hE.below hb2).pow ?_).mono fun e w' h=>⟨h.1,hb2.trans h.2⟩
 refine Nat.le_trans (jn_len _ 32 fun s hs'=>?_) (by rw [List.length_append,List.length_map];omega)
 rcases List.mem_append.1 hs' with hs' | hs'
 ·exact hLs s hs'
 ·obtain ⟨a,ha,rfl⟩:=List.mem_map.1 hs'
  exact hs a ha
theorem jlen {args:List Ag} (hl:args.length<=32) (hs:∀ a ∈ args,(argT a).length<=32):(jn ([wIf]++args.map argT)).length<=2000:=by
 refine Nat.le_trans (jn_len _ 32 fun s hs'=>?_) (by rw [List.length_append,List.length_map];simp only [List.length_cons,List.length_nil];omega)
 rcases List.mem_append.1 hs' with hs' | hs'
 ·rw [List.mem_singleton.1 hs'];decide
 ·obtain ⟨a,ha,rfl⟩:=List.mem_map.1 hs'
  exact hs a ha
theorem line_0 (op:Nat) (dst nm:Bs) (args:List Ag) (pos:Int × Int) (v:Value) (w:World) (hf:FormS 0 op dst nm args) (hn:∀ a ∈ args,a.num<18446744073709551616) (h:SlG kAg (·<w.heap.size) w v args) (hE:PrE w) :
  Calls Tryz.prog 48 #[.agg #[.int .u8 ((0:Nat):Int),.int .u8 (op:Int),.string ⟨dst.toArray⟩,.string ⟨nm.toArray⟩,v,.int .i64 pos.1,.int .i64 pos.2]] w fun e w'=>e=.returned (.string ⟨(jn ([dst,[61]]++args.map argT)).toArray⟩)/\Below w.heap.size w w':=by
 obtain ⟨pa,ca,rfl⟩:=h.slc
 have HF:=hid hf;have HSL:=hid h;have HE:=hid hE;have HNU:=hid hn
 clear hf h hE hn
 go_enter Tryz.func48,Tryz.ntmps48
 go_upto_region 3 with fail
 obtain ⟨wo,hwo⟩:∃ W,w.alloc (.cells #[.int .u8 0,.int .u8 (op:Int),.string ⟨dst.toArray⟩,.string ⟨nm.toArray⟩,.slice pa args.length ca,.int .i64 pos.1,.int .i64 pos.2] 41)=W:=⟨_,rfl⟩
 have hbx:BxL 41 w.heap.size [.int .u8 0,.int .u8 (op:Int),.string ⟨dst.toArray⟩,.string ⟨nm.toArray⟩,.slice pa args.length ca,.int .i64 pos.1,.int .i64 pos.2] wo:=by rw [<- hwo];exact BxL.new _ _ _
 have HB:=hid (show Below w.heap.size w wo from by rw [<- hwo];exact bA)
 rw [hwo]
 clear hwo
 have n1:wo.cell? ⟨w.heap.size,1,none⟩=some (.int .u8 (op:Int)):=hbx.at 1 rfl
 have n2:wo.cell? ⟨w.heap.size,2,none⟩=some (.string ⟨dst.toArray⟩):=hbx.at 2 rfl
 have n3:wo.cell? ⟨w.heap.size,3,none⟩=some (.string ⟨nm.toArray⟩):=hbx.at 3 rfl
 have n4:wo.cell? ⟨w.heap.size,4,none⟩=some (.slice pa args.length ca):=hbx.at 4 rfl
 clear hbx
 go_wp2_with (go_at_call 89;(refine (words_lit [dst,[61]] args _ w.heap.size w _ HB.out rfl HSL.out HE.out (by simp) (by simp) (List.forall_mem_cons.2 ⟨HF.out.dlen,List.forall_mem_cons.2 ⟨by decide,List.forall_mem_nil _⟩⟩) HF.out.alen HNU.out HF.out.each).mono ?_);rintro e w9 ⟨rfl,hb9⟩;have HB9:=hid hb9;clear hb9)
 go_ret
 exact ⟨rfl,HB9.out⟩
theorem line_1 (op:Nat) (dst nm:Bs) (args:List Ag) (pos:Int × Int) (v:Value) (w:World) (hf:FormS 1 op dst nm args) (hn:∀ a ∈ args,a.num<18446744073709551616) (h:SlG kAg (·<w.heap.size) w v args) (hE:PrE w) :
  Calls Tryz.prog 48 #[.agg #[.int .u8 ((1:Nat):Int),.int .u8 (op:Int),.string ⟨dst.toArray⟩,.string ⟨nm.toArray⟩,v,.int .i64 pos.1,.int .i64 pos.2]] w fun e w'=>e=.returned (.string ⟨(jn ([dst,[61],opT op]++args.map argT)).toArray⟩)/\Below w.heap.size w w':=by
 obtain ⟨pa,ca,rfl⟩:=h.slc
 have HF:=hid hf;have HSL:=hid h;have HE:=hid hE;have HNU:=hid hn
 clear hf h hE hn
 go_enter Tryz.func48,Tryz.ntmps48
 go_upto_region 3 with fail
 obtain ⟨wo,hwo⟩:∃ W,w.alloc (.cells #[.int .u8 1,.int .u8 (op:Int),.string ⟨dst.toArray⟩,.string ⟨nm.toArray⟩,.slice pa args.length ca,.int .i64 pos.1,.int .i64 pos.2] 41)=W:=⟨_,rfl⟩
 have hbx:BxL 41 w.heap.size [.int .u8 1,.int .u8 (op:Int),.string ⟨dst.toArray⟩,.string ⟨nm.toArray⟩,.slice pa args.length ca,.int .i64 pos.1,.int .i64 pos.2] wo:=by rw [<- hwo];exact BxL.new _ _ _
 have HB:=hid (show Below w.heap.size w wo from by rw [<- hwo];exact bA)
 rw [hwo]
 clear hwo
 have n1:wo.cell? ⟨w.heap.size,1,none⟩=some (.int .u8 (op:Int)):=hbx.at 1 rfl
 have n2:wo.cell? ⟨w.heap.size,2,none⟩=some (.string ⟨dst.toArray⟩):=hbx.at 2 rfl
 have n3:wo.cell? ⟨w.heap.size,3,none⟩=some (.string ⟨nm.toArray⟩):=hbx.at 3 rfl
 have n4:wo.cell? ⟨w.heap.size,4,none⟩=some (.slice pa args.length ca):=hbx.at 4 rfl
 clear hbx
 have hop:=HF.opr rfl
 have HON:=hid (opN_T op (by omega) hop.1)
 clear hop
 go_wp2_with (first
  | (go_at_call 88;(refine (opname_any op _).mono ?_);rintro e w1 ⟨rfl,hb1⟩;rw [HON.out];have HB1:=hid (HB.out.trans (hb1.mono HB.out.size));have m2:=cellB hb1 n2 lrf;have m4:=cellB hb1 n4 lrf;clear hb1)
  | (go_at_call 89;(refine (words_lit [dst,[61],opT op] args _ w.heap.size w _ HB1.out rfl HSL.out HE.out (by simp) (by simp) (List.forall_mem_cons.2 ⟨HF.out.dlen,List.forall_mem_cons.2 ⟨by decide,List.forall_mem_cons.2 ⟨HF.out.olen rfl,List.forall_mem_nil _⟩⟩⟩) HF.out.alen HNU.out HF.out.each).mono ?_);rintro e w9 ⟨rfl,hb9⟩;have HB9:=hid hb9;clear hb9))
 go_ret
 exact ⟨rfl,HB9.out⟩
theorem line_2 (op:Nat) (dst nm:Bs) (args:List Ag) (pos:Int × Int) (v:Value) (w:World) (hf:FormS 2 op dst nm args) (hn:∀ a ∈ args,a.num<18446744073709551616) (h:SlG kAg (·<w.heap.size) w v args) (hE:PrE w) :
  Calls Tryz.prog 48 #[.agg #[.int .u8 ((2:Nat):Int),.int .u8 (op:Int),.string ⟨dst.toArray⟩,.string ⟨nm.toArray⟩,v,.int .i64 pos.1,.int .i64 pos.2]] w fun e w'=>e=.returned (.string ⟨(jn ([dst,[61],wLoad,nm]++args.map argT)).toArray⟩)/\Below w.heap.size w w':=by
 obtain ⟨pa,ca,rfl⟩:=h.slc
 have HF:=hid hf;have HSL:=hid h;have HE:=hid hE;have HNU:=hid hn
 clear hf h hE hn
 go_enter Tryz.func48,Tryz.ntmps48
 go_upto_region 3 with fail
 obtain ⟨wo,hwo⟩:∃ W,w.alloc (.cells #[.int .u8 2,.int .u8 (op:Int),.string ⟨dst.toArray⟩,.string ⟨nm.toArray⟩,.slice pa args.length ca,.int .i64 pos.1,.int .i64 pos.2] 41)=W:=⟨_,rfl⟩
 have hbx:BxL 41 w.heap.size [.int .u8 2,.int .u8 (op:Int),.string ⟨dst.toArray⟩,.string ⟨nm.toArray⟩,.slice pa args.length ca,.int .i64 pos.1,.int .i64 pos.2] wo:=by rw [<- hwo];exact BxL.new _ _ _
 have HB:=hid (show Below w.heap.size w wo from by rw [<- hwo];exact bA)
 rw [hwo]
 clear hwo
 have n1:wo.cell? ⟨w.heap.size,1,none⟩=some (.int .u8 (op:Int)):=hbx.at 1 rfl
 have n2:wo.cell? ⟨w.heap.size,2,none⟩=some (.string ⟨dst.toArray⟩):=hbx.at 2 rfl
 have n3:wo.cell? ⟨w.heap.size,3,none⟩=some (.string ⟨nm.toArray⟩):=hbx.at 3 rfl
 have n4:wo.cell? ⟨w.heap.size,4,none⟩=some (.slice pa args.length ca):=hbx.at 4 rfl
 clear hbx
 go_wp2_with (go_at_call 89;(refine (words_lit [dst,[61],wLoad,nm] args _ w.heap.size w _ HB.out rfl HSL.out HE.out (by simp) (by simp) (List.forall_mem_cons.2 ⟨HF.out.dlen,List.forall_mem_cons.2 ⟨by decide,List.forall_mem_cons.2 ⟨by decide,List.forall_mem_cons.2 ⟨HF.out.nlen,List.forall_mem_nil _⟩⟩⟩⟩) HF.out.alen HNU.out HF.out.each).mono ?_);rintro e w9 ⟨rfl,hb9⟩;have HB9:=hid hb9;clear hb9)
 go_ret
 exact ⟨rfl,HB9.out⟩
theorem line_3 (op:Nat) (dst nm:Bs) (args:List Ag) (pos:Int × Int) (v:Value) (w:World) (hf:FormS 3 op dst nm args) (hn:∀ a ∈ args,a.num<18446744073709551616) (h:SlG kAg (·<w.heap.size) w v args) (hE:PrE w) :
  Calls Tryz.prog 48 #[.agg #[.int .u8 ((3:Nat):Int),.int .u8 (op:Int),.string ⟨dst.toArray⟩,.string ⟨nm.toArray⟩,v,.int .i64 pos.1,.int .i64 pos.2]] w fun e w'=>e=.returned (.string ⟨(jn ([wStore,nm]++args.map argT)).toArray⟩)/\Below w.heap.size w w':=by
 obtain ⟨pa,ca,rfl⟩:=h.slc
 have HF:=hid hf;have HSL:=hid h;have HE:=hid hE;have HNU:=hid hn
 clear hf h hE hn
 go_enter Tryz.func48,Tryz.ntmps48
 go_upto_region 3 with fail
 obtain ⟨wo,hwo⟩:∃ W,w.alloc (.cells #[.int .u8 3,.int .u8 (op:Int),.string ⟨dst.toArray⟩,.string ⟨nm.toArray⟩,.slice pa args.length ca,.int .i64 pos.1,.int .i64 pos.2] 41)=W:=⟨_,rfl⟩
 have hbx:BxL 41 w.heap.size [.int .u8 3,.int .u8 (op:Int),.string ⟨dst.toArray⟩,.string ⟨nm.toArray⟩,.slice pa args.length ca,.int .i64 pos.1,.int .i64 pos.2] wo:=by rw [<- hwo];exact BxL.new _ _ _
 have HB:=hid (show Below w.heap.size w wo from by rw [<- hwo];exact bA)
 rw [hwo]
 clear hwo
 have n1:wo.cell? ⟨w.heap.size,1,none⟩=some (.int .u8 (op:Int)):=hbx.at 1 rfl
 have n2:wo.cell? ⟨w.heap.size,2,none⟩=some (.string ⟨dst.toArray⟩):=hbx.at 2 rfl
 have n3:wo.cell? ⟨w.heap.size,3,none⟩=some (.string ⟨nm.toArray⟩):=hbx.at 3 rfl
 have n4:wo.cell? ⟨w.heap.size,4,none⟩=some (.slice pa args.length ca):=hbx.at 4 rfl
 clear hbx
 go_wp2_with (go_at_call 89;(refine (words_lit [wStore,nm] args _ w.heap.size w _ HB.out rfl HSL.out HE.out (by simp) (by simp) (List.forall_mem_cons.2 ⟨by decide,List.forall_mem_cons.2 ⟨HF.out.nlen,List.forall_mem_nil _⟩⟩) HF.out.alen HNU.out HF.out.each).mono ?_);rintro e w9 ⟨rfl,hb9⟩;have HB9:=hid hb9;clear hb9)
 go_ret
 exact ⟨rfl,HB9.out⟩
theorem line_4 (op:Nat) (dst nm:Bs) (args:List Ag) (pos:Int × Int) (v:Value) (w:World) (hf:FormS 4 op dst nm args) (hn:∀ a ∈ args,a.num<18446744073709551616) (h:SlG kAg (·<w.heap.size) w v args) (hE:PrE w) :
  Calls Tryz.prog 48 #[.agg #[.int .u8 ((4:Nat):Int),.int .u8 (op:Int),.string ⟨dst.toArray⟩,.string ⟨nm.toArray⟩,v,.int .i64 pos.1,.int .i64 pos.2]] w fun e w'=>e=.returned (.string ⟨(jn ([dst,[61],wCall,nm]++args.map argT)).toArray⟩)/\Below w.heap.size w w':=by
 obtain ⟨pa,ca,rfl⟩:=h.slc
 have HF:=hid hf;have HSL:=hid h;have HE:=hid hE;have HNU:=hid hn
 clear hf h hE hn
 go_enter Tryz.func48,Tryz.ntmps48
 go_upto_region 3 with fail
 obtain ⟨wo,hwo⟩:∃ W,w.alloc (.cells #[.int .u8 4,.int .u8 (op:Int),.string ⟨dst.toArray⟩,.string ⟨nm.toArray⟩,.slice pa args.length ca,.int .i64 pos.1,.int .i64 pos.2] 41)=W:=⟨_,rfl⟩
 have hbx:BxL 41 w.heap.size [.int .u8 4,.int .u8 (op:Int),.string ⟨dst.toArray⟩,.string ⟨nm.toArray⟩,.slice pa args.length ca,.int .i64 pos.1,.int .i64 pos.2] wo:=by rw [<- hwo];exact BxL.new _ _ _
 have HB:=hid (show Below w.heap.size w wo from by rw [<- hwo];exact bA)
 rw [hwo]
 clear hwo
 have n1:wo.cell? ⟨w.heap.size,1,none⟩=some (.int .u8 (op:Int)):=hbx.at 1 rfl
 have n2:wo.cell? ⟨w.heap.size,2,none⟩=some (.string ⟨dst.toArray⟩):=hbx.at 2 rfl
 have n3:wo.cell? ⟨w.heap.size,3,none⟩=some (.string ⟨nm.toArray⟩):=hbx.at 3 rfl
 have n4:wo.cell? ⟨w.heap.size,4,none⟩=some (.slice pa args.length ca):=hbx.at 4 rfl
 clear hbx
 go_wp2_with (go_at_call 89;(refine (words_lit [dst,[61],wCall,nm] args _ w.heap.size w _ HB.out rfl HSL.out HE.out (by simp) (by simp) (List.forall_mem_cons.2 ⟨HF.out.dlen,List.forall_mem_cons.2 ⟨by decide,List.forall_mem_cons.2 ⟨by decide,List.forall_mem_cons.2 ⟨HF.out.nlen,List.forall_mem_nil _⟩⟩⟩⟩) HF.out.alen HNU.out HF.out.each).mono ?_);rintro e w9 ⟨rfl,hb9⟩;have HB9:=hid hb9;clear hb9)
 go_ret
 exact ⟨rfl,HB9.out⟩
theorem line_5 (op:Nat) (dst nm:Bs) (args:List Ag) (pos:Int × Int) (v:Value) (w:World) (hf:FormS 5 op dst nm args) (hn:∀ a ∈ args,a.num<18446744073709551616) (h:SlG kAg (·<w.heap.size) w v args) (hE:PrE w) :
  Calls Tryz.prog 48 #[.agg #[.int .u8 ((5:Nat):Int),.int .u8 (op:Int),.string ⟨dst.toArray⟩,.string ⟨nm.toArray⟩,v,.int .i64 pos.1,.int .i64 pos.2]] w fun e w'=>e=.returned (.string ⟨(jn ([wIn,dst,nm]++([]:List Ag).map argT)).toArray⟩)/\Below w.heap.size w w':=by
 obtain ⟨pa,ca,rfl⟩:=h.slc
 have HF:=hid hf;have HSL:=hid h;have HE:=hid hE;have HNU:=hid hn
 clear hf h hE hn
 go_enter Tryz.func48,Tryz.ntmps48
 go_upto_region 3 with fail
 obtain ⟨wo,hwo⟩:∃ W,w.alloc (.cells #[.int .u8 5,.int .u8 (op:Int),.string ⟨dst.toArray⟩,.string ⟨nm.toArray⟩,.slice pa args.length ca,.int .i64 pos.1,.int .i64 pos.2] 41)=W:=⟨_,rfl⟩
 have hbx:BxL 41 w.heap.size [.int .u8 5,.int .u8 (op:Int),.string ⟨dst.toArray⟩,.string ⟨nm.toArray⟩,.slice pa args.length ca,.int .i64 pos.1,.int .i64 pos.2] wo:=by rw [<- hwo];exact BxL.new _ _ _
 have HB:=hid (show Below w.heap.size w wo from by rw [<- hwo];exact bA)
 rw [hwo]
 clear hwo
 have n1:wo.cell? ⟨w.heap.size,1,none⟩=some (.int .u8 (op:Int)):=hbx.at 1 rfl
 have n2:wo.cell? ⟨w.heap.size,2,none⟩=some (.string ⟨dst.toArray⟩):=hbx.at 2 rfl
 have n3:wo.cell? ⟨w.heap.size,3,none⟩=some (.string ⟨nm.toArray⟩):=hbx.at 3 rfl
 have n4:wo.cell? ⟨w.heap.size,4,none⟩=some (.slice pa args.length ca):=hbx.at 4 rfl
 clear hbx
 go_wp2_with (go_at_call 89;(refine (words_lit [wIn,dst,nm] [] _ w.heap.size w _ HB.out rfl SlG.nil HE.out (by simp) (by simp) (List.forall_mem_cons.2 ⟨by decide,List.forall_mem_cons.2 ⟨HF.out.dlen,List.forall_mem_cons.2 ⟨HF.out.nlen,List.forall_mem_nil _⟩⟩⟩) (by simp) (by simp) (by simp)).mono ?_);rintro e w9 ⟨rfl,hb9⟩;have HB9:=hid hb9;clear hb9)
 go_ret
 exact ⟨rfl,HB9.out⟩
theorem line_6 (op:Nat) (dst nm:Bs) (args:List Ag) (pos:Int × Int) (v:Value) (w:World) (hf:FormS 6 op dst nm args) (hn:∀ a ∈ args,a.num<18446744073709551616) (h:SlG kAg (·<w.heap.size) w v args) (hE:PrE w) :
  Calls Tryz.prog 48 #[.agg #[.int .u8 ((6:Nat):Int),.int .u8 (op:Int),.string ⟨dst.toArray⟩,.string ⟨nm.toArray⟩,v,.int .i64 pos.1,.int .i64 pos.2]] w fun e w'=>e=.returned (.string ⟨(jn ([wOut,nm]++args.map argT)).toArray⟩)/\Below w.heap.size w w':=by
 obtain ⟨pa,ca,rfl⟩:=h.slc
 have HF:=hid hf;have HSL:=hid h;have HE:=hid hE;have HNU:=hid hn
 clear hf h hE hn
 go_enter Tryz.func48,Tryz.ntmps48
 go_upto_region 3 with fail
 obtain ⟨wo,hwo⟩:∃ W,w.alloc (.cells #[.int .u8 6,.int .u8 (op:Int),.string ⟨dst.toArray⟩,.string ⟨nm.toArray⟩,.slice pa args.length ca,.int .i64 pos.1,.int .i64 pos.2] 41)=W:=⟨_,rfl⟩
 have hbx:BxL 41 w.heap.size [.int .u8 6,.int .u8 (op:Int),.string ⟨dst.toArray⟩,.string ⟨nm.toArray⟩,.slice pa args.length ca,.int .i64 pos.1,.int .i64 pos.2] wo:=by rw [<- hwo];exact BxL.new _ _ _
 have HB:=hid (show Below w.heap.size w wo from by rw [<- hwo];exact bA)
 rw [hwo]
 clear hwo
 have n1:wo.cell? ⟨w.heap.size,1,none⟩=some (.int .u8 (op:Int)):=hbx.at 1 rfl
 have n2:wo.cell? ⟨w.heap.size,2,none⟩=some (.string ⟨dst.toArray⟩):=hbx.at 2 rfl
 have n3:wo.cell? ⟨w.heap.size,3,none⟩=some (.string ⟨nm.toArray⟩):=hbx.at 3 rfl
 have n4:wo.cell? ⟨w.heap.size,4,none⟩=some (.slice pa args.length ca):=hbx.at 4 rfl
 clear hbx
 go_wp2_with (go_at_call 89;(refine (words_lit [wOut,nm] args _ w.heap.size w _ HB.out rfl HSL.out HE.out (by simp) (by simp) (List.forall_mem_cons.2 ⟨by decide,List.forall_mem_cons.2 ⟨HF.out.nlen,List.forall_mem_nil _⟩⟩) HF.out.alen HNU.out HF.out.each).mono ?_);rintro e w9 ⟨rfl,hb9⟩;have HB9:=hid hb9;clear hb9)
 go_ret
 exact ⟨rfl,HB9.out⟩
theorem line_7 (op:Nat) (dst nm:Bs) (args:List Ag) (pos:Int × Int) (v:Value) (w:World) (hf:FormS 7 op dst nm args) (hn:∀ a ∈ args,a.num<18446744073709551616) (h:SlG kAg (·<w.heap.size) w v args) (hE:PrE w) :
  Calls Tryz.prog 48 #[.agg #[.int .u8 ((7:Nat):Int),.int .u8 (op:Int),.string ⟨dst.toArray⟩,.string ⟨nm.toArray⟩,v,.int .i64 pos.1,.int .i64 pos.2]] w fun e w'=>e=.returned (.string ⟨(jn ([dst,[61],wRelease,nm]++args.map argT)).toArray⟩)/\Below w.heap.size w w':=by
 obtain ⟨pa,ca,rfl⟩:=h.slc
 have HF:=hid hf;have HSL:=hid h;have HE:=hid hE;have HNU:=hid hn
 clear hf h hE hn
 go_enter Tryz.func48,Tryz.ntmps48
 go_upto_region 3 with fail
 obtain ⟨wo,hwo⟩:∃ W,w.alloc (.cells #[.int .u8 7,.int .u8 (op:Int),.string ⟨dst.toArray⟩,.string ⟨nm.toArray⟩,.slice pa args.length ca,.int .i64 pos.1,.int .i64 pos.2] 41)=W:=⟨_,rfl⟩
 have hbx:BxL 41 w.heap.size [.int .u8 7,.int .u8 (op:Int),.string ⟨dst.toArray⟩,.string ⟨nm.toArray⟩,.slice pa args.length ca,.int .i64 pos.1,.int .i64 pos.2] wo:=by rw [<- hwo];exact BxL.new _ _ _
 have HB:=hid (show Below w.heap.size w wo from by rw [<- hwo];exact bA)
 rw [hwo]
 clear hwo
 have n1:wo.cell? ⟨w.heap.size,1,none⟩=some (.int .u8 (op:Int)):=hbx.at 1 rfl
 have n2:wo.cell? ⟨w.heap.size,2,none⟩=some (.string ⟨dst.toArray⟩):=hbx.at 2 rfl
 have n3:wo.cell? ⟨w.heap.size,3,none⟩=some (.string ⟨nm.toArray⟩):=hbx.at 3 rfl
 have n4:wo.cell? ⟨w.heap.size,4,none⟩=some (.slice pa args.length ca):=hbx.at 4 rfl
 clear hbx
 go_wp2_with (go_at_call 89;(refine (words_lit [dst,[61],wRelease,nm] args _ w.heap.size w _ HB.out rfl HSL.out HE.out (by simp) (by simp) (List.forall_mem_cons.2 ⟨HF.out.dlen,List.forall_mem_cons.2 ⟨by decide,List.forall_mem_cons.2 ⟨by decide,List.forall_mem_cons.2 ⟨HF.out.nlen,List.forall_mem_nil _⟩⟩⟩⟩) HF.out.alen HNU.out HF.out.each).mono ?_);rintro e w9 ⟨rfl,hb9⟩;have HB9:=hid hb9;clear hb9)
 go_ret
 exact ⟨rfl,HB9.out⟩
theorem line_8 (op:Nat) (dst nm:Bs) (args:List Ag) (pos:Int × Int) (v:Value) (w:World) (hf:FormS 8 op dst nm args) (hn:∀ a ∈ args,a.num<18446744073709551616) (h:SlG kAg (·<w.heap.size) w v args) (hE:PrE w) :
  Calls Tryz.prog 48 #[.agg #[.int .u8 ((8:Nat):Int),.int .u8 (op:Int),.string ⟨dst.toArray⟩,.string ⟨nm.toArray⟩,v,.int .i64 pos.1,.int .i64 pos.2]] w fun e w'=>e=.returned (.string ⟨(jn ([wJump,nm]++args.map argT)).toArray⟩)/\Below w.heap.size w w':=by
 obtain ⟨pa,ca,rfl⟩:=h.slc
 have HF:=hid hf;have HSL:=hid h;have HE:=hid hE;have HNU:=hid hn
 clear hf h hE hn
 go_enter Tryz.func48,Tryz.ntmps48
 go_upto_region 3 with fail
 obtain ⟨wo,hwo⟩:∃ W,w.alloc (.cells #[.int .u8 8,.int .u8 (op:Int),.string ⟨dst.toArray⟩,.string ⟨nm.toArray⟩,.slice pa args.length ca,.int .i64 pos.1,.int .i64 pos.2] 41)=W:=⟨_,rfl⟩
 have hbx:BxL 41 w.heap.size [.int .u8 8,.int .u8 (op:Int),.string ⟨dst.toArray⟩,.string ⟨nm.toArray⟩,.slice pa args.length ca,.int .i64 pos.1,.int .i64 pos.2] wo:=by rw [<- hwo];exact BxL.new _ _ _
 have HB:=hid (show Below w.heap.size w wo from by rw [<- hwo];exact bA)
 rw [hwo]
 clear hwo
 have n1:wo.cell? ⟨w.heap.size,1,none⟩=some (.int .u8 (op:Int)):=hbx.at 1 rfl
 have n2:wo.cell? ⟨w.heap.size,2,none⟩=some (.string ⟨dst.toArray⟩):=hbx.at 2 rfl
 have n3:wo.cell? ⟨w.heap.size,3,none⟩=some (.string ⟨nm.toArray⟩):=hbx.at 3 rfl
 have n4:wo.cell? ⟨w.heap.size,4,none⟩=some (.slice pa args.length ca):=hbx.at 4 rfl
 clear hbx
 go_wp2_with (go_at_call 89;(refine (words_lit [wJump,nm] args _ w.heap.size w _ HB.out rfl HSL.out HE.out (by simp) (by simp) (List.forall_mem_cons.2 ⟨by decide,List.forall_mem_cons.2 ⟨HF.out.nlen,List.forall_mem_nil _⟩⟩) HF.out.alen HNU.out HF.out.each).mono ?_);rintro e w9 ⟨rfl,hb9⟩;have HB9:=hid hb9;clear hb9)
 go_ret
 exact ⟨rfl,HB9.out⟩
theorem line_9 (op:Nat) (dst nm:Bs) (args:List Ag) (pos:Int × Int) (v:Value) (w:World) (hf:FormS 9 op dst nm args) (hn:∀ a ∈ args,a.num<18446744073709551616) (h:SlG kAg (·<w.heap.size) w v args) (hE:PrE w) :
  Calls Tryz.prog 48 #[.agg #[.int .u8 ((9:Nat):Int),.int .u8 (op:Int),.string ⟨dst.toArray⟩,.string ⟨nm.toArray⟩,v,.int .i64 pos.1,.int .i64 pos.2]] w fun e w'=>e=.returned (.string ⟨(jn ([wIf]++args.map argT)++[32]++nm).toArray⟩)/\Below w.heap.size w w':=by
 obtain ⟨pa,ca,rfl⟩:=h.slc
 have HF:=hid hf;have HSL:=hid h;have HE:=hid hE;have HNU:=hid hn
 clear hf h hE hn
 go_enter Tryz.func48,Tryz.ntmps48
 go_upto_region 3 with fail
 obtain ⟨wo,hwo⟩:∃ W,w.alloc (.cells #[.int .u8 9,.int .u8 (op:Int),.string ⟨dst.toArray⟩,.string ⟨nm.toArray⟩,.slice pa args.length ca,.int .i64 pos.1,.int .i64 pos.2] 41)=W:=⟨_,rfl⟩
 have hbx:BxL 41 w.heap.size [.int .u8 9,.int .u8 (op:Int),.string ⟨dst.toArray⟩,.string ⟨nm.toArray⟩,.slice pa args.length ca,.int .i64 pos.1,.int .i64 pos.2] wo:=by rw [<- hwo];exact BxL.new _ _ _
 have HB:=hid (show Below w.heap.size w wo from by rw [<- hwo];exact bA)
 rw [hwo]
 clear hwo
 have n1:wo.cell? ⟨w.heap.size,1,none⟩=some (.int .u8 (op:Int)):=hbx.at 1 rfl
 have n2:wo.cell? ⟨w.heap.size,2,none⟩=some (.string ⟨dst.toArray⟩):=hbx.at 2 rfl
 have n3:wo.cell? ⟨w.heap.size,3,none⟩=some (.string ⟨nm.toArray⟩):=hbx.at 3 rfl
 have n4:wo.cell? ⟨w.heap.size,4,none⟩=some (.slice pa args.length ca):=hbx.at 4 rfl
 clear hbx
 obtain ⟨J,hJ⟩:∃ J,jn ([wIf]++args.map argT)=J:=⟨_,rfl⟩
 have HJ:=hid hJ
 have hj1:J.length<=2000:=by rw [<- hJ];exact jlen HF.alen HF.each
 have hj2:=HF.nlen
 have HJL:=hid (And.intro hj1 hj2)
 have hk1:¬ 9223372036854775807<J.length+1:=by omega
 have hk2:¬ 9223372036854775807<J.length+1+nm.length:=by omega
 clear hJ hj1 hj2
 have HBD:=hid (show Below wo.heap.size wo wo.drew from (Below.refl _ _).drew)
 have HSW:=hid (HSL.below HB.out)
 have HEW:=hid (HE.below HB.out)
 go_upto_region 22 with fail
 have hS:(fun W=>W.cell? ⟨w.heap.size,3,none⟩=some (.string ⟨nm.toArray⟩)/\W.cell? ⟨w.heap.size,4,none⟩=some (.slice pa args.length ca)) wo.drew:=⟨n3,n4⟩
 have hS2:(fun W=>W.cell? ⟨w.heap.size,3,none⟩=some (.string ⟨nm.toArray⟩)/\W.cell? ⟨w.heap.size,4,none⟩=some (.slice pa args.length ca)) (wo.alloc (.cells #[.string ⟨#[105,102]⟩] 9)).drew:=⟨cellB (bA) n3 lrf,cellB (bA) n4 lrf⟩
 have hFa:=fT
 refine rgN (fun W=>W.cell? ⟨w.heap.size,3,none⟩=some (.string ⟨nm.toArray⟩)/\W.cell? ⟨w.heap.size,4,none⟩=some (.slice pa args.length ca)) 8 (by kernel_rfl) ?_
 simp only [zP,Nat.reduceAdd]
 refine wpHJ_pure (v:=?v0) 0 hFa rfl (by kernel_rfl) nE (Or.inl ⟨by rfl,?y0⟩) (.inr hS) ?r0
 case y0=>(intro w' _;go_simp;try rfl)
 simp only [aP]
 refine wpHJ_take (v:=?v1) 1 hFa rfl (by kernel_rfl) nE (Or.inl ⟨by rfl,?y1⟩) hS ?r1
 case y1=>(rintro w' ⟨s0,s1⟩;go_simp;try rfl)
 simp only [aP]
 refine wpHJ_pure (v:=?v3) 5 hFa rfl (by kernel_rfl) nE (Or.inl ⟨by rfl,?y3⟩) (.inr hS) ?r3
 case y3=>(intro w' _;go_simp;try rfl)
 simp only [aP]
 refine wpHJ_take (v:=?v4) 6 hFa rfl (by kernel_rfl) nE (Or.inl ⟨by rfl,?y4⟩) hS ?r4
 case y4=>(rintro w' ⟨s0,s1⟩;go_simp;try rfl)
 simp only [aP]
 refine oy 2 fun K hK=>?_
 go_simp
 refine hK _ _ (.inr (.inr hS2)) ?_
 clear hK K
 refine oy 3 fun K hK=>?_
 go_simp
 (refine (callsIn_wide.2 (words_lit [wIf] args _ wo.heap.size wo wo.drew HBD.out rfl HSW.out HEW.out (by simp) (by simp) (List.forall_mem_cons.2 ⟨by decide,List.forall_mem_nil _⟩) HF.alen HNU.out HF.each)).mono ?_)
 rintro e w9 ⟨rfl,hb9⟩
 rw [HJ.out]
 have HB9:=hid (HB.trans (hb9.mono HB.size))
 have hS9:(fun W=>W.cell? ⟨w.heap.size,3,none⟩=some (.string ⟨nm.toArray⟩)/\W.cell? ⟨w.heap.size,4,none⟩=some (.slice pa args.length ca)) w9:=⟨cellB hb9 hS.1 lrf,cellB hb9 hS.2 lrf⟩
 refine hK _ _ (.inr (.inr hS9)) ?_
 clear hK K
 refine wpHJ_pure (v:=?v2) 4 hFa rfl (by kernel_rfl) nE (Or.inl ⟨by rfl,?y2⟩) (.inr hS9) ?r2
 case y2=>(intro w' _;go_simp;try rfl)
 simp only [aP]
 refine wpHJ_pure (v:=?v5) 7 hFa rfl (by kernel_rfl) nE (Or.inl ⟨by rfl,?y5⟩) (.inr hS9) ?r5
 case y5=>(intro w' _;go_simp;try rfl)
 simp only [aP]
 refine oy 8 fun K hK=>?_
 go_simp
 refine hK _ _ (.inl rfl) (dN ?_)
 clear hK K
 simp only [onlyN,Exit.then]
 clear hFa
 clear hS hS2 hS9
 go_wp2_with fail
 go_ret
 refine ⟨?_,HB9.out⟩
 show Ending.returned (.string (⟨J.toArray⟩++⟨#[32]⟩++⟨nm.toArray⟩))=Ending.returned (.string ⟨(jn ([wIf]++args.map argT)++[32]++nm).toArray⟩)
 rw [HJ.out,ByteArray.mk_append_mk,ByteArray.mk_append_mk]
theorem line_10 (op:Nat) (dst nm:Bs) (args:List Ag) (pos:Int × Int) (v:Value) (w:World) (hf:FormS 10 op dst nm args) (hn:∀ a ∈ args,a.num<18446744073709551616) (h:SlG kAg (·<w.heap.size) w v args) (hE:PrE w) :
  Calls Tryz.prog 48 #[.agg #[.int .u8 ((10:Nat):Int),.int .u8 (op:Int),.string ⟨dst.toArray⟩,.string ⟨nm.toArray⟩,v,.int .i64 pos.1,.int .i64 pos.2]] w fun e w'=>e=.returned (.string ⟨(nm++[58]).toArray⟩)/\Below w.heap.size w w':=by
 obtain ⟨pa,ca,rfl⟩:=h.slc
 have HF:=hid hf;have HSL:=hid h;have HE:=hid hE;have HNU:=hid hn
 clear hf h hE hn
 go_enter Tryz.func48,Tryz.ntmps48
 go_upto_region 3 with fail
 obtain ⟨wo,hwo⟩:∃ W,w.alloc (.cells #[.int .u8 10,.int .u8 (op:Int),.string ⟨dst.toArray⟩,.string ⟨nm.toArray⟩,.slice pa args.length ca,.int .i64 pos.1,.int .i64 pos.2] 41)=W:=⟨_,rfl⟩
 have hbx:BxL 41 w.heap.size [.int .u8 10,.int .u8 (op:Int),.string ⟨dst.toArray⟩,.string ⟨nm.toArray⟩,.slice pa args.length ca,.int .i64 pos.1,.int .i64 pos.2] wo:=by rw [<- hwo];exact BxL.new _ _ _
 have HB:=hid (show Below w.heap.size w wo from by rw [<- hwo];exact bA)
 rw [hwo]
 clear hwo
 have n1:wo.cell? ⟨w.heap.size,1,none⟩=some (.int .u8 (op:Int)):=hbx.at 1 rfl
 have n2:wo.cell? ⟨w.heap.size,2,none⟩=some (.string ⟨dst.toArray⟩):=hbx.at 2 rfl
 have n3:wo.cell? ⟨w.heap.size,3,none⟩=some (.string ⟨nm.toArray⟩):=hbx.at 3 rfl
 have n4:wo.cell? ⟨w.heap.size,4,none⟩=some (.slice pa args.length ca):=hbx.at 4 rfl
 clear hbx
 have hj2:=HF.nlen
 have hk1:¬ 9223372036854775807<nm.length+1:=by omega
 clear hj2
 go_wp2_with fail
 go_ret
 exact ⟨rfl,HB.out⟩
theorem line_11 (op:Nat) (dst nm:Bs) (args:List Ag) (pos:Int × Int) (v:Value) (w:World) (hf:FormS 11 op dst nm args) (hn:∀ a ∈ args,a.num<18446744073709551616) (h:SlG kAg (·<w.heap.size) w v args) (hE:PrE w) :
  Calls Tryz.prog 48 #[.agg #[.int .u8 ((11:Nat):Int),.int .u8 (op:Int),.string ⟨dst.toArray⟩,.string ⟨nm.toArray⟩,v,.int .i64 pos.1,.int .i64 pos.2]] w fun e w'=>e=.returned (.string ⟨(wHalt).toArray⟩)/\Below w.heap.size w w':=by
 obtain ⟨pa,ca,rfl⟩:=h.slc
 have HF:=hid hf;have HSL:=hid h;have HE:=hid hE;have HNU:=hid hn
 clear hf h hE hn
 go_enter Tryz.func48,Tryz.ntmps48
 go_upto_region 3 with fail
 obtain ⟨wo,hwo⟩:∃ W,w.alloc (.cells #[.int .u8 11,.int .u8 (op:Int),.string ⟨dst.toArray⟩,.string ⟨nm.toArray⟩,.slice pa args.length ca,.int .i64 pos.1,.int .i64 pos.2] 41)=W:=⟨_,rfl⟩
 have hbx:BxL 41 w.heap.size [.int .u8 11,.int .u8 (op:Int),.string ⟨dst.toArray⟩,.string ⟨nm.toArray⟩,.slice pa args.length ca,.int .i64 pos.1,.int .i64 pos.2] wo:=by rw [<- hwo];exact BxL.new _ _ _
 have HB:=hid (show Below w.heap.size w wo from by rw [<- hwo];exact bA)
 rw [hwo]
 clear hwo
 have n1:wo.cell? ⟨w.heap.size,1,none⟩=some (.int .u8 (op:Int)):=hbx.at 1 rfl
 have n2:wo.cell? ⟨w.heap.size,2,none⟩=some (.string ⟨dst.toArray⟩):=hbx.at 2 rfl
 have n3:wo.cell? ⟨w.heap.size,3,none⟩=some (.string ⟨nm.toArray⟩):=hbx.at 3 rfl
 have n4:wo.cell? ⟨w.heap.size,4,none⟩=some (.slice pa args.length ca):=hbx.at 4 rfl
 clear hbx
 go_wp2_with fail
 go_ret
 exact ⟨rfl,HB.out⟩
theorem line_12 (op:Nat) (dst nm:Bs) (args:List Ag) (pos:Int × Int) (v:Value) (w:World) (hf:FormS 12 op dst nm args) (hn:∀ a ∈ args,a.num<18446744073709551616) (h:SlG kAg (·<w.heap.size) w v args) (hE:PrE w) :
  Calls Tryz.prog 48 #[.agg #[.int .u8 ((12:Nat):Int),.int .u8 (op:Int),.string ⟨dst.toArray⟩,.string ⟨nm.toArray⟩,v,.int .i64 pos.1,.int .i64 pos.2]] w fun e w'=>e=.returned (.string ⟨(jn ([wRet]++args.map argT)).toArray⟩)/\Below w.heap.size w w':=by
 obtain ⟨pa,ca,rfl⟩:=h.slc
 have HF:=hid hf;have HSL:=hid h;have HE:=hid hE;have HNU:=hid hn
 clear hf h hE hn
 go_enter Tryz.func48,Tryz.ntmps48
 go_upto_region 3 with fail
 obtain ⟨wo,hwo⟩:∃ W,w.alloc (.cells #[.int .u8 12,.int .u8 (op:Int),.string ⟨dst.toArray⟩,.string ⟨nm.toArray⟩,.slice pa args.length ca,.int .i64 pos.1,.int .i64 pos.2] 41)=W:=⟨_,rfl⟩
 have hbx:BxL 41 w.heap.size [.int .u8 12,.int .u8 (op:Int),.string ⟨dst.toArray⟩,.string ⟨nm.toArray⟩,.slice pa args.length ca,.int .i64 pos.1,.int .i64 pos.2] wo:=by rw [<- hwo];exact BxL.new _ _ _
 have HB:=hid (show Below w.heap.size w wo from by rw [<- hwo];exact bA)
 rw [hwo]
 clear hwo
 have n1:wo.cell? ⟨w.heap.size,1,none⟩=some (.int .u8 (op:Int)):=hbx.at 1 rfl
 have n2:wo.cell? ⟨w.heap.size,2,none⟩=some (.string ⟨dst.toArray⟩):=hbx.at 2 rfl
 have n3:wo.cell? ⟨w.heap.size,3,none⟩=some (.string ⟨nm.toArray⟩):=hbx.at 3 rfl
 have n4:wo.cell? ⟨w.heap.size,4,none⟩=some (.slice pa args.length ca):=hbx.at 4 rfl
 clear hbx
 go_wp2_with (go_at_call 89;(refine (words_lit [wRet] args _ w.heap.size w _ HB.out rfl HSL.out HE.out (by simp) (by simp) (List.forall_mem_cons.2 ⟨by decide,List.forall_mem_nil _⟩) HF.out.alen HNU.out HF.out.each).mono ?_);rintro e w9 ⟨rfl,hb9⟩;have HB9:=hid hb9;clear hb9)
 go_ret
 exact ⟨rfl,HB9.out⟩
theorem line_any (x:In) (v:Value) (w:World) (hx:formB x=true) (hn:∀ a ∈ x.args,a.num<18446744073709551616) (h:SlG kAg (·<w.heap.size) w v x.args) (hE:PrE w) :
  Calls Tryz.prog 48 #[.agg #[.int .u8 (x.kind:Int),.int .u8 (x.op:Int),.string ⟨x.dst.toArray⟩,.string ⟨x.nm.toArray⟩,v,.int .i64 x.pos.1,.int .i64 x.pos.2]] w fun e w'=>e=.returned (.string ⟨(lineM x).toArray⟩)/\Below w.heap.size w w':=by
 have hf:=form_s hx hn
 clear hx
 obtain ⟨kind,op,dst,nm,args,pos⟩:=x
 simp only at h hf hn ⊢
 have hkd:=hf.kd
 rcases (show kind=0\/kind=1\/kind=2\/kind=3\/kind=4\/kind=5\/kind=6\/kind=7\/kind=8\/kind=9\/kind=10\/kind=11\/kind=12 by omega) with rfl | rfl | rfl | rfl | rfl | rfl | rfl | rfl | rfl | rfl | rfl | rfl | rfl
 ·rw [show lineM ⟨0,op,dst,nm,args,pos⟩=jn ([dst,[61]]++args.map argT) from rfl];exact line_0 op dst nm args pos v w hf hn h hE
 ·rw [show lineM ⟨1,op,dst,nm,args,pos⟩=jn ([dst,[61],opT op]++args.map argT) from rfl];exact line_1 op dst nm args pos v w hf hn h hE
 ·rw [show lineM ⟨2,op,dst,nm,args,pos⟩=jn ([dst,[61],wLoad,nm]++args.map argT) from rfl];exact line_2 op dst nm args pos v w hf hn h hE
 ·rw [show lineM ⟨3,op,dst,nm,args,pos⟩=jn ([wStore,nm]++args.map argT) from rfl];exact line_3 op dst nm args pos v w hf hn h hE
 ·rw [show lineM ⟨4,op,dst,nm,args,pos⟩=jn ([dst,[61],wCall,nm]++args.map argT) from rfl];exact line_4 op dst nm args pos v w hf hn h hE
 ·rw [show lineM ⟨5,op,dst,nm,args,pos⟩=jn ([wIn,dst,nm]++([]:List Ag).map argT) from rfl];exact line_5 op dst nm args pos v w hf hn h hE
 ·rw [show lineM ⟨6,op,dst,nm,args,pos⟩=jn ([wOut,nm]++args.map argT) from rfl];exact line_6 op dst nm args pos v w hf hn h hE
 ·rw [show lineM ⟨7,op,dst,nm,args,pos⟩=jn ([dst,[61],wRelease,nm]++args.map argT) from rfl];exact line_7 op dst nm args pos v w hf hn h hE
 ·rw [show lineM ⟨8,op,dst,nm,args,pos⟩=jn ([wJump,nm]++args.map argT) from rfl];exact line_8 op dst nm args pos v w hf hn h hE
 ·rw [show lineM ⟨9,op,dst,nm,args,pos⟩=jn ([wIf]++args.map argT)++[32]++nm from (by have:=jn_snoc wIf (args.map argT) nm;exact this)];exact line_9 op dst nm args pos v w hf hn h hE
 ·rw [show lineM ⟨10,op,dst,nm,args,pos⟩=nm++[58] from rfl];exact line_10 op dst nm args pos v w hf hn h hE
 ·rw [show lineM ⟨11,op,dst,nm,args,pos⟩=wHalt from rfl];exact line_11 op dst nm args pos v w hf hn h hE
 ·rw [show lineM ⟨12,op,dst,nm,args,pos⟩=jn ([wRet]++args.map argT) from rfl];exact line_12 op dst nm args pos v w hf hn h hE
end Go.Proofs.YtoofbgoeipijcaaGreatDoor
