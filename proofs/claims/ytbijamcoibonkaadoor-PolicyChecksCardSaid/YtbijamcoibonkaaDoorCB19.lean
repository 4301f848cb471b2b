/-
 Reading programs: words, instructions and the end of a text, plainly; the parser's box, new, and the program that it holds.
-/
import Derived.Test.YtbijamcoibonkaaDoorCB18
import Derived.Test.YtbijamcoibonkaaDoorCB10
import Derived.Test.YtbijamcoibonkaaDoorCSPaT
import Derived.Lib.LastIndexByte
namespace Go.Proofs.YtbijamcoibonkaaDoor
set_option linter.unusedSimpArgs false
set_option linter.unusedVariables false
open Go.RowKit Go.Shelf
theorem flush_ok {n i:Nat} {cur:Option (Bs × Nat)} {acc:List Wd} (ha:∀ x ∈ acc,x.1 ≠ []∧x.1.length≤i) (hc:∀ u c,cur=some (u,c)→u ≠ []∧u.length≤i):(∀ x ∈ flushW n cur acc,x.1 ≠ []∧x.1.length≤i)∧(flushW n cur acc).length≤acc.length+cur.toList.length:=by
 cases cur with
 | none=>exact ⟨ha,Nat.le_refl _⟩
 | some q =>
  obtain ⟨u,c⟩:=q
  refine ⟨fun x hx=>?_,by simp [flushW]⟩
  rcases List.mem_append.1 hx with h | h
  ·exact ha x h
  ·rw [List.mem_singleton] at h;subst h;exact hc u c rfl
theorem lt_wok (n:Nat):∀ (s:Bs) (i:Nat) (cur:Option (Bs × Nat)) (acc ws:List Wd),lt n s i cur acc = .ok ws→(∀ x ∈ acc,x.1 ≠ []∧x.1.length≤i)→(∀ u c,cur=some (u,c)→u ≠ []∧u.length≤i)→(∀ x ∈ ws,x.1 ≠ []∧x.1.length≤i+s.length)∧ws.length≤acc.length+cur.toList.length+s.length
 | [],i,cur,acc,ws,h,ha,hc=>by
  unfold lt at h;injection h with h;subst h
  exact flush_ok ha hc
 | c :: r,i,cur,acc,ws,h,ha,hc=>by
  unfold lt at h
  have hf:=flush_ok (n:=n) ha hc
  split at h
  ·injection h with h;subst h
   exact ⟨fun x hx=>⟨(hf.1 x hx).1,Nat.le_trans (hf.1 x hx).2 (Nat.le_add_right _ _)⟩,Nat.le_trans hf.2 (Nat.le_add_right _ _)⟩
  split at h
  ·obtain ⟨h1,h2⟩:=lt_wok n r (i+1) none _ ws h (fun x hx=>⟨(hf.1 x hx).1,by have:=(hf.1 x hx).2;omega⟩) (fun u c e=>by cases e)
   refine ⟨fun x hx=>⟨(h1 x hx).1,by have:=(h1 x hx).2;simp only [List.length_cons];omega⟩,?_⟩
   have:=hf.2
   simp only [List.length_cons,Option.toList_none,List.length_nil] at h2 ⊢
   omega
  split at h
  ·cases h
  ·have hg:∀ u k,grow c i cur=some (u,k)→u ≠ []∧u.length≤i+1:=by
    intro u k e
    cases cur with
    | none=>unfold grow at e;injection e with e;injection e with e1 e2;subst e1;exact ⟨by simp,by simp⟩
    | some q=>obtain ⟨t,k'⟩:=q;unfold grow at e;injection e with e;injection e with e1 e2;subst e1;exact ⟨by simp,by have:=(hc t k' rfl).2;simp;omega⟩
   obtain ⟨h1,h2⟩:=lt_wok n r (i+1) _ acc ws h (fun x hx=>⟨(ha x hx).1,by have:=(ha x hx).2;omega⟩) hg
   have hl:(grow c i cur).toList.length≤1:=by cases cur <;> simp [grow]
   exact ⟨fun x hx=>⟨(h1 x hx).1,by have:=(h1 x hx).2;simp only [List.length_cons];omega⟩,by simp only [List.length_cons];omega⟩
theorem cutNL_le2:∀ s:Bs,(cutNL s).1.length≤s.length∧(cutNL s).2.1.length≤s.length
 | []=>⟨Nat.le_refl _,Nat.le_refl _⟩
 | c :: r=>by
  unfold cutNL
  split
  ·exact ⟨Nat.zero_le _,by simp⟩
  ·obtain ⟨a,b⟩:=cutNL_le2 r
   exact ⟨by simp;omega,by simp;omega⟩
theorem ls_wok:∀ (f:Nat) (s:Bs) (n:Nat) (out o:List (List Wd)),s.length≤f→s.length≤65536→(∀ l ∈ out,WOk l)→ls n s out = .ok o→∀ l ∈ o,WOk l:=by
 intro f
 induction f with
 | zero =>
  intro s n out o hf hs ho h
  obtain rfl:s=[]:=List.eq_nil_of_length_eq_zero (by omega)
  rw [ls] at h
  simp [cutNL,lt,flushW,addL] at h
  subst h
  exact ho
 | succ f ih =>
  intro s n out o hf hs ho h
  rw [ls] at h
  obtain ⟨c1,c2⟩:=cutNL_le2 s
  cases he:lt n (cutNL s).1 0 none [] with
  | error i=>rw [he] at h;cases h
  | ok ws =>
   rw [he] at h
   dsimp only at h
   obtain ⟨h1,h2⟩:=lt_wok n (cutNL s).1 0 none [] ws he (by simp) (fun u c e=>by cases e)
   have ha:∀ l ∈ addL out ws,WOk l:=by
    intro l hl
    unfold addL at hl
    split at hl
    ·exact ho l hl
    ·rename_i hne
     rcases List.mem_append.1 hl with hl | hl
     ·exact ho l hl
     ·rw [List.mem_singleton] at hl;subst hl
      refine ⟨hne,by simp at h2;omega,fun x hx=>⟨(h1 x hx).1,by have:=(h1 x hx).2;omega⟩⟩
   split at h
   ·rename_i hm
    exact ih _ _ _ _ (by have:=cutNL_len s hm;omega) (by omega) ha h
   ·injection h with h;subst h;exact ha
theorem tok_wok {s:Bs} {o:List (List Wd)} (hs:s.length≤65536) (h:tok s = .ok o):∀ l ∈ o,WOk l:=ls_wok s.length s 1 [] o (Nat.le_refl _) hs (by simp) h
theorem bindE {α β:Type} {x:PE α} {g:α→PE β} {b:β} (h:(x >>= g) = .ok b):∃ a,x = .ok a∧g a = .ok b:=by
 cases x with
 | error e=>cases h
 | ok a=>exact ⟨a,rfl,h⟩
theorem needM_ok {b:Bool} {p:Int × Int} {e:Int} {u:Unit} (h:needM b p e = .ok u):b=true:=by cases b;cases h;rfl
theorem pureE {α:Type} {a b:α} (h:(pure a:PE α) = .ok b):a=b:=by injection h
theorem numR_le (s:Bs):(numR s).1≤18446744073709551615:=by
 unfold numR
 split
 ·exact Nat.zero_le _
 ·split
  ·exact numGo_le s 0 (Nat.zero_le _)
  ·exact Nat.zero_le _
theorem operand_num {f:Int × Int} {ws:List Wd} {p:Ag × List Wd} (h:operandP f ws = .ok p):NumA p.1:=by
 unfold operandP at h
 obtain ⟨⟨w,r⟩,h1,h⟩:=bindE h
 dsimp only at h
 split at h
 ·obtain ⟨u,h2,h⟩:=bindE h
  rw [← pureE h];exact numR_le _
 ·obtain ⟨u,h2,h⟩:=bindE h
  rw [← pureE h];exact Nat.zero_le _
theorem operands_num {f:Int × Int}:∀ (n:Nat) {ws:List Wd} {p:List Ag × List Wd},operandsP f n ws = .ok p→∀ a ∈ p.1,NumA a
 | 0,ws,p,h=>by unfold operandsP at h;rw [← pureE h];simp
 | n+1,ws,p,h=>by
  unfold operandsP at h
  obtain ⟨⟨a,r⟩,h1,h⟩:=bindE h
  obtain ⟨⟨l,q⟩,h2,h⟩:=bindE h
  rw [← pureE h]
  intro x hx
  rcases List.mem_cons.1 hx with rfl | hx
  ·exact operand_num h1
  ·exact operands_num n h2 x hx
theorem rest_num {f:Int × Int}:∀ (ws:List Wd) (k:Nat) {l:List Ag},restP f k ws = .ok l→∀ a ∈ l,NumA a
 | [],k,l,h=>by unfold restP at h;rw [← pureE h];simp
 | w :: r,k,l,h=>by
  unfold restP at h
  obtain ⟨u,h1,h⟩:=bindE h
  obtain ⟨⟨a,q⟩,h2,h⟩:=bindE h
  obtain ⟨l',h3,h⟩:=bindE h
  rw [← pureE h]
  intro x hx
  rcases List.mem_cons.1 hx with rfl | hx
  ·exact operand_num h2
  ·exact rest_num r (k+1) h3 x hx
structure InOk (x:In):Prop where
 kd:x.kind≤12
 op:x.op≤255
 nu:NumI x
theorem InOk.at (x:In) (h:InOk x) (q:Int × Int):InOk { x with pos:=q }:=⟨h.kd,h.op,h.nu⟩
theorem op_le (s:Bs):opL.idxOf s+2≤255:=Nat.le_trans (Nat.add_le_add_right List.idxOf_le_length 2) (by decide)
theorem instr_inok {S:PS} {f:Int × Int} {c:Wd} {r:List Wd} {p:In × List Bs × List Bs × List Wd} (h:instrP S f c r = .ok p):InOk p.1:=by
 unfold instrP at h
 split at h
 ·obtain ⟨a,h1,h⟩:=bindE h;obtain ⟨b,h2,h⟩:=bindE h;rw [← pureE h];exact ⟨Nat.le_of_ble_eq_true rfl,Nat.le_of_ble_eq_true rfl,operands_num _ h2⟩
 split at h
 ·obtain ⟨a,h1,h⟩:=bindE h;obtain ⟨b,h2,h⟩:=bindE h;rw [← pureE h];exact ⟨Nat.le_of_ble_eq_true rfl,Nat.le_of_ble_eq_true rfl,fun _ hx=>by cases hx⟩
 split at h
 ·obtain ⟨a,h1,h⟩:=bindE h;obtain ⟨b,h2,h⟩:=bindE h;rw [← pureE h];exact ⟨Nat.le_of_ble_eq_true rfl,Nat.le_of_ble_eq_true rfl,operands_num _ h2⟩
 split at h
 ·obtain ⟨a,h1,h⟩:=bindE h;rw [← pureE h];exact ⟨Nat.le_of_ble_eq_true rfl,Nat.le_of_ble_eq_true rfl,fun _ hx=>by cases hx⟩
 split at h
 ·obtain ⟨a,h1,h⟩:=bindE h;obtain ⟨b,h2,h⟩:=bindE h;rw [← pureE h];exact ⟨Nat.le_of_ble_eq_true rfl,Nat.le_of_ble_eq_true rfl,operands_num _ h1⟩
 split at h
 ·rw [← pureE h];exact ⟨Nat.le_of_ble_eq_true rfl,Nat.le_of_ble_eq_true rfl,fun _ hx=>by cases hx⟩
 split at h
 ·obtain ⟨u,h0,h⟩:=bindE h;obtain ⟨a,h1,h⟩:=bindE h;rw [← pureE h];exact ⟨Nat.le_of_ble_eq_true rfl,Nat.le_of_ble_eq_true rfl,operands_num _ h1⟩
 split at h
 ·obtain ⟨u,h0,h⟩:=bindE h;rw [← pureE h];exact ⟨Nat.le_of_ble_eq_true rfl,Nat.le_of_ble_eq_true rfl,fun _ hx=>by cases hx⟩
 ·obtain ⟨u,h0,h⟩:=bindE h;obtain ⟨a,h1,h⟩:=bindE h;rw [← pureE h]
  show InOk a.1
  clear h0 h
  unfold assignP at h1
  obtain ⟨b,g1,h1⟩:=bindE h1
  try dsimp only at h1
  obtain ⟨u',g2,h1⟩:=bindE h1
  obtain ⟨v,g3,h1⟩:=bindE h1
  try dsimp only at h1
  split at h1
  ·obtain ⟨a1,k1,h1⟩:=bindE h1;obtain ⟨a2,k2,h1⟩:=bindE h1;rw [← pureE h1];exact ⟨Nat.le_of_ble_eq_true rfl,Nat.le_of_ble_eq_true rfl,operands_num _ k2⟩
  split at h1
  ·obtain ⟨a1,k1,h1⟩:=bindE h1;obtain ⟨a2,k2,h1⟩:=bindE h1;rw [← pureE h1];exact ⟨Nat.le_of_ble_eq_true rfl,Nat.le_of_ble_eq_true rfl,operands_num _ k2⟩
  split at h1
  ·obtain ⟨a1,k1,h1⟩:=bindE h1;obtain ⟨a2,k2,h1⟩:=bindE h1;rw [← pureE h1];exact ⟨Nat.le_of_ble_eq_true rfl,Nat.le_of_ble_eq_true rfl,rest_num _ _ k2⟩
  split at h1
  ·obtain ⟨a2,k2,h1⟩:=bindE h1;rw [← pureE h1];exact ⟨Nat.le_of_ble_eq_true rfl,op_le _,operands_num _ k2⟩
  ·obtain ⟨a2,k2,h1⟩:=bindE h1;rw [← pureE h1];exact ⟨Nat.le_of_ble_eq_true rfl,Nat.le_of_ble_eq_true rfl,operands_num _ k2⟩
structure CdOk (p:Pg):Prop where
 funcs:∀ f ∈ p.funcs,∀ x ∈ f.code,InOk x
 main:∀ x ∈ p.main,InOk x
theorem CdOk.num {p:Pg} (h:CdOk p):NumP p:=⟨fun f hf x hx=>(h.funcs f hf x hx).nu,fun x hx=>(h.main x hx).nu⟩
theorem declare_cd {S S':PS} {c:Wd} {r:List Wd} (h:CdOk S.p) (hm:declareP S c r = .ok S'):CdOk S'.p:=by
 unfold declareP at hm
 split at hm
 ·obtain ⟨a,h1,hm⟩:=bindE hm;obtain ⟨b,h2,hm⟩:=bindE hm;rw [← pureE hm];exact ⟨h.funcs,h.main⟩
 split at hm
 ·obtain ⟨u,h0,hm⟩:=bindE hm;obtain ⟨a,h1,hm⟩:=bindE hm;obtain ⟨b,h2,hm⟩:=bindE hm;rw [← pureE hm];exact ⟨h.funcs,h.main⟩
 split at hm
 ·obtain ⟨u,h0,hm⟩:=bindE hm;obtain ⟨a,h1,hm⟩:=bindE hm;obtain ⟨a2,h12,hm⟩:=bindE hm;obtain ⟨b,h2,hm⟩:=bindE hm;rw [← pureE hm];exact ⟨h.funcs,h.main⟩
 split at hm
 ·obtain ⟨u,h0,hm⟩:=bindE hm;obtain ⟨a,h1,hm⟩:=bindE hm;obtain ⟨b,h2,hm⟩:=bindE hm;rw [← pureE hm]
  refine ⟨fun g hg x hx=>?_,h.main⟩
  rcases List.mem_append.1 hg with hg | hg
  ·exact h.funcs g hg x hx
  ·rw [List.mem_singleton] at hg;subst hg;cases hx
 split at hm
 ·obtain ⟨b,h2,hm⟩:=bindE hm;rw [← pureE hm];exact ⟨h.funcs,h.main⟩
 ·cases hm
theorem code_cd {S:PS} (h:CdOk S.p):∀ x ∈ codeP S,InOk x:=by
 unfold codeP
 split
 ·intro x hx
  cases hg:S.p.funcs.getLast? with
  | none=>rw [hg] at hx;cases hx
  | some f=>rw [hg] at hx;exact h.funcs f (List.mem_of_getLast? hg) x hx
 ·exact h.main
theorem put_cd {S:PS} (h:CdOk S.p) {l:List In} (hl:∀ x ∈ l,InOk x):CdOk (putCode S l):=by
 unfold putCode
 split
 ·refine ⟨fun g hg x hx=>?_,h.main⟩
  rcases List.mem_append.1 hg with hg | hg
  ·exact h.funcs g (List.dropLast_subset _ hg) x hx
  ·cases hq:S.p.funcs.getLast? with
   | none=>rw [hq] at hg;cases hg
   | some f=>rw [hq] at hg;simp only [Option.map_some,Option.toList_some,List.mem_singleton] at hg;subst hg;exact hl x hx
 ·exact ⟨h.funcs,hl⟩
theorem line_cd {S S':PS} {l:List Wd} (h:CdOk S.p) (hm:lineP S l = .ok S'):CdOk S'.p:=by
 cases l with
 | nil=>cases hm
 | cons w r =>
  unfold lineP at hm
  dsimp only at hm
  split at hm
  ·exact declare_cd h hm
  split at hm
  ·cases hm
  unfold instructP at hm
  split at hm
  ·obtain ⟨u,h0,hm⟩:=bindE hm;rw [← pureE hm];exact h
  ·obtain ⟨u,h0,hm⟩:=bindE hm;obtain ⟨a,h1,hm⟩:=bindE hm;obtain ⟨b,h2,hm⟩:=bindE hm;rw [← pureE hm]
   refine put_cd h fun x hx=>?_
   rcases List.mem_append.1 hx with hx | hx
   ·exact code_cd h x hx
   ·rw [List.mem_singleton] at hx;subst hx;exact InOk.at _ (instr_inok h1) _
theorem linesP_cons {S:PS} {l:List Wd} {r:List (List Wd)}:linesP S (l :: r)=match lineP S l with | .error e => .error e | .ok S'=>linesP S' r:=by rw [linesP];cases lineP S l <;> rfl
theorem siv0:SIv ps0P:=⟨⟨by decide,by decide,by decide,by decide,by decide,by decide,fun f hf=>by cases hf⟩,by decide,by decide,.inr (.inl rfl),fun e=>by cases e⟩
theorem cd0:CdOk ps0P.p:=⟨fun f hf=>(by cases hf),fun f hf=>(by cases hf)⟩
theorem lines_cd:∀ (o:List (List Wd)) {S S':PS},CdOk S.p→linesP S o = .ok S'→CdOk S'.p
 | [],S,S',h,hm=>by rw [← pureE (show pure S=_ from hm)];exact h
 | l :: r,S,S',h,hm=>by
  rw [linesP_cons] at hm
  cases h1:lineP S l with
  | error e=>rw [h1] at hm;cases hm
  | ok S1=>rw [h1] at hm;exact lines_cd r (line_cd h h1) hm
theorem parse_cd {s:Bs} {p:Pg} (h:parseE s = .ok p):CdOk p∧(checkM p).2=0∧s.length≤65536:=by
 unfold parseE at h
 split at h
 ·cases h
 ·rename_i hl
  split at h
  ·cases h
  ·obtain ⟨S,h1,h⟩:=bindE h;obtain ⟨u,h2,h⟩:=bindE h;obtain ⟨u',h3,h⟩:=bindE h
   rw [← pureE h]
   exact ⟨lines_cd _ cd0 h1,by simpa using needM_ok h3,by omega⟩
theorem tw_all {p:UInt8→Bool}:∀ l:Bs,(∀ c ∈ l,p c=true)→l.takeWhile p=l
 | [],_=>rfl
 | c :: r,h=>by rw [List.takeWhile_cons,if_pos (h c (List.mem_cons_self ..)),tw_all r fun d hd=>h d (List.mem_cons_of_mem _ hd)]
theorem col_end (s:Bs):(s.length:Int) - Lib.lastIndexByte ⟨s.toArray⟩ 10=1+((s.reverse.takeWhile fun c=>decide (c ≠ 10)).length:Int):=by
 have hb:∀ j (h:j<s.length),((ByteArray.mk s.toArray).data[j]!)=s[j]:=fun j h=>by simp [h]
 have hz:(ByteArray.mk s.toArray).size=s.length:=rfl
 have h10:∀ c:UInt8,((c.toNat:Int)=10) ↔ c=10:=fun c=>⟨fun h=>UInt8.toNat_inj.1 (show c.toNat=10 by omega),fun h=>by subst h;rfl⟩
 rcases Lib.lastIndexByte_spec ⟨s.toArray⟩ 10 with ⟨e,hn⟩ | ⟨i,hi,e,hc,hn⟩
 ·have ht:s.reverse.takeWhile (fun c=>decide (c ≠ 10))=s.reverse:=by
   apply tw_all
   intro c hc
   rw [List.mem_reverse] at hc
   obtain ⟨j,hj,rfl⟩:=List.getElem_of_mem hc
   have:=hn j hj
   rw [hb j hj] at this
   exact decide_eq_true fun h=>this ((h10 _).2 h)
  rw [e,ht,List.length_reverse];omega
 ·rw [hz] at hi hn
  rw [hb i hi,h10] at hc
  have hs:s=s.take i++10 :: s.drop (i+1):=by
   rw [← hc,List.getElem_cons_drop hi,List.take_append_drop]
  have ht:s.reverse.takeWhile (fun c=>decide (c ≠ 10))=(s.drop (i+1)).reverse:=by
   conv=>lhs;rw [hs]
   rw [List.reverse_append,List.reverse_cons,List.append_assoc,List.takeWhile_append_of_pos]
   ·simp
   ·intro c hc
    rw [List.mem_reverse] at hc
    obtain ⟨j,hj,rfl⟩:=List.getElem_of_mem hc
    rw [List.getElem_drop]
    rw [List.length_drop] at hj
    have:=hn (i+1+j) (by omega) (by omega)
    rw [hb _ (by omega)] at this
    exact decide_eq_true fun h=>this ((h10 _).2 h)
  rw [e,ht,List.length_reverse,List.length_drop];omega
theorem GR.out {α:Type} {K:EK α} {b B e:Nat} {O:Nat→Value} {w:World} {v:Value} {l:List α} (h:GR K (Fin' b O w) B e w v l) (hl:l.length≤140737488355328):SlG K (·<w.heap.size) w v l :=
 (h.sl hl).weaken fun k hk=>by
  rcases hk with hk | hk
  ·exact hk.1
  ·exact (h.lt k hk).2
def Dull (w:World) (k:Nat):Prop:=∀ o v,w.cell? ⟨k,o,none⟩=some v→(∃ n,v = .int .i64 n)∨∃ p n c,v = .slice p n c
def Loud (v:Value):Prop:=(∃ s,v = .string s)∨∃ n,v = .int .u8 n
theorem Dull.no {w:World} {k o:Nat} {v:Value} (h:Dull w k) (hc:w.cell? ⟨k,o,none⟩=some v) (hl:Loud v):False:=by
 rcases h o v hc with ⟨n,rfl⟩ | ⟨p,n,c,rfl⟩ <;> rcases hl with ⟨s,e⟩ | ⟨m,e⟩ <;> cases e
def AV {α:Type} (K:EK α):Prop:=∀ (R:Nat→Prop) (w:World) (cs:List Value) (x:α) (k:Nat),Dull w k→K.E R w cs x→K.E (fun j=>R j∧j ≠ k) w cs x∧∃ v,cs[0]?=some v∧Loud v
theorem AV.sl {α:Type} {K:EK α} (hK:AV K) {R:Nat→Prop} {w:World} {v:Value} {l:List α} {k:Nat} (hd:Dull w k) (h:SlG K R w v l):SlG K (fun j=>R j∧j ≠ k) w v l:=by
 obtain ⟨css,h1,p,c,e,h2,h3,h4,h5⟩:=h
 refine ⟨css,⟨h1.1,fun i hi hi'=>(hK _ _ _ _ k hd (h1.2 i hi hi')).1⟩,p,c,e,h2,h3,h4,?_⟩
 rcases h5 with h5 | ⟨b,off,e,hR,hc⟩
 ·exact .inl h5
 ·by_cases hz:css.flatten=[]
  ·exact .inl hz
  ·refine .inr ⟨b,off,e,⟨hR,?_⟩,hc⟩
   rintro rfl
   cases css with
   | nil=>exact hz rfl
   | cons c0 cr =>
    obtain ⟨v,hv,hl⟩:=(hK _ _ _ _ b hd (h1.2 0 (by have:=h1.1;simp at this;omega) (by simp))).2
    obtain ⟨h00,hv⟩:=List.getElem?_eq_some_iff.1 hv
    have h0:0<(c0 :: cr).flatten.length:=List.length_pos_iff.2 hz
    have h6:=hc 0 h0
    have h7:(c0 :: cr).flatten[0]'h0=v:=by
     rw [← hv]
     exact List.getElem_append_left h00
    rw [h7] at h6
    exact hd.no h6 hl
def simE {α β:Type} (R:α→β→Prop) (x:PE α) (y:PE β):Prop:=match x,y with | .error f,.error g=>f.2=g.2 | .ok a,.ok b=>R a b | _,_=>False
theorem simE.bind {α β γ δ:Type} {R:α→β→Prop} {R':γ→δ→Prop} {x:PE α} {y:PE β} {g:α→PE γ} {g':β→PE δ} (h:simE R x y) (hg:∀ a b,R a b→simE R' (g a) (g' b)):simE R' (x >>= g) (y >>= g'):=by
 cases x <;> cases y
 ·exact h
 ·exact h.elim
 ·exact h.elim
 ·exact hg _ _ h
theorem simE.ok {α β:Type} {R:α→β→Prop} {a:α} {b:β} (h:R a b):simE R (pure a:PE α) (pure b:PE β):=h
abbrev tx (ws:List Wd):List Bs:=ws.map (·.1)
section
variable {f g:Int × Int} {ws ws':List Wd}
end
structure SS (S S':PS):Prop where
 p:bareP S.p=bareP S'.p
 lb:S.labels=S'.labels
 st:S.sites=S'.sites
 nn:S.inn=S'.inn
 sp:S.step=S'.step
theorem SS.ch {S S':PS} (h:SS S S'):S.p.chans=S'.p.chans:=bP_chans h.p
theorem SS.ar {S S':PS} (h:SS S S'):S.p.arrays=S'.p.arrays:=bP_arrays h.p
theorem SS.an {S S':PS} (h:SS S S'):anamesP S.p=anamesP S'.p:=by unfold anamesP;rw [h.ar]
theorem SS.fu {S S':PS} (h:SS S S'):S.p.funcs.map bareF=S'.p.funcs.map bareF:=bP_funcs h.p
theorem SS.mn {S S':PS} (h:SS S S'):S.p.main.map bareI=S'.p.main.map bareI:=bP_main h.p
theorem SS.fn {S S':PS} (h:SS S S'):S.p.funcs.map Fu.nm=S'.p.funcs.map Fu.nm:=by
 have:=congrArg (List.map Fu.nm) h.fu
 rw [List.map_map,List.map_map] at this
 exact this
section
variable {f g:Int × Int} {ws ws':List Wd} {S S':PS}
theorem SS.code (hS:SS S S'):(codeP S).map bareI=(codeP S').map bareI:=by
 unfold codeP
 rw [hS.nn]
 split
 ·have:=congrArg List.getLast? hS.fu
  rw [List.getLast?_map,List.getLast?_map] at this
  cases h1:S.p.funcs.getLast? with
  | none=>rw [h1] at this;cases h2:S'.p.funcs.getLast? with
   | none=>rfl
   | some b=>rw [h2] at this;cases this
  | some a=>rw [h1] at this;cases h2:S'.p.funcs.getLast? with
   | none=>rw [h2] at this;cases this
   | some b=>rw [h2] at this;exact bF_code (by simpa using this)
 ·exact hS.mn
theorem SS.put (hS:SS S S') {l l':List In} (hl:l.map bareI=l'.map bareI):bareP (putCode S l)=bareP (putCode S' l'):=by
 unfold putCode
 rw [hS.nn]
 split
 ·have h0:=congrArg List.getLast? hS.fu
  rw [List.getLast?_map,List.getLast?_map] at h0
  have hd:=congrArg List.dropLast hS.fu
  rw [← List.map_dropLast,← List.map_dropLast] at hd
  unfold bareP
  dsimp only
  rw [List.map_append,List.map_append,hd,bP_width hS.p,hS.ch,hS.ar,hS.mn]
  cases h1:S.p.funcs.getLast? with
  | none=>rw [h1] at h0;cases h2:S'.p.funcs.getLast? with
   | none=>rfl
   | some b=>rw [h2] at h0;cases h0
  | some a=>rw [h1] at h0;cases h2:S'.p.funcs.getLast? with
   | none=>rw [h2] at h0;cases h0
   | some b =>
    rw [h2] at h0
    have hb:bareF a=bareF b:=by simpa using h0
    have:bareF { a with code:=l }=bareF { b with code:=l' }:=by
     unfold bareF;dsimp only;rw [hl,bF_nm hb,bF_params hb]
    simp [this]
 ·unfold bareP
  dsimp only
  rw [hl,bP_width hS.p,hS.ch,hS.ar,hS.fu]
end
end Go.Proofs.YtbijamcoibonkaaDoor
