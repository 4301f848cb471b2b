/-
 Reading programs: where what is refused stands. No program in sight.
-/
import Derived.Test.YtoofbgoeipijcaaGreatDoorYSPyA
import Derived.Lib.IndexMore
import Derived.Lib.IndexBytes
import Derived.Lib.IndexAny
namespace Go.Proofs.YtoofbgoeipijcaaGreatDoor
set_option linter.unusedSimpArgs false
set_option linter.unusedVariables false
open Go.RowKit Go.Shelf
def okE {α:Type} (Q:Int × Int->Prop) (R:α->Prop) (x:PE α):Prop:=match x with | .error f=>f.2 ≠ 0/\Q f.1 | .ok a=>R a
theorem okE.bind {α β:Type} {Q:Int × Int->Prop} {R:α->Prop} {R':β->Prop} {x:PE α} {g:α->PE β} (h:okE Q R x) (hg:∀ a,R a->okE Q R' (g a)):okE Q R' (x >>= g):=by
 cases x with
 | error f=>exact h
 | ok a=>exact hg a h
theorem okE.need {Q:Int × Int->Prop} {b:Bool} {p:Int × Int} {e:Int} (he:b=false->e ≠ 0) (hp:Q p):okE Q (fun _=>b=true) (needM b p e):=by
 cases b
 ·exact ⟨he rfl,hp⟩
 ·exact (rfl:true=true)
theorem okE.ok {α:Type} {Q:Int × Int->Prop} {R:α->Prop} {a:α} (h:R a):okE Q R (pure a:PE α):=h
section
variable {Q:Int × Int->Prop} {f:Int × Int} {ws:List Wd}
theorem ok_next (hf:Q f) (h:∀ w ∈ ws,Q (wpos w)):okE Q (fun a=>Q (wpos a.1)/\∀ w ∈ a.2,Q (wpos w)) (nextP f ws):=by
 cases ws with
 | nil=>exact ⟨by show (4:Int) ≠ 0;decide,hf⟩
 | cons a r=>exact ⟨h a (List.mem_cons_self ..),fun w hw=>h w (List.mem_cons_of_mem _ hw)⟩
theorem ok_end (h:∀ w ∈ ws,Q (wpos w)):okE Q (fun _=>True) (endP ws):=by
 cases ws with
 | nil=>exact trivial
 | cons a r=>exact ⟨by show (4:Int) ≠ 0;decide,h a (List.mem_cons_self ..)⟩
theorem ok_name (hf:Q f) (h:∀ w ∈ ws,Q (wpos w)):okE Q (fun a=>Q (wpos a.1)/\∀ w ∈ a.2,Q (wpos w)) (nameP f ws):=by
 unfold nameP
 refine (ok_next hf h).bind ?_
 rintro ⟨w,r⟩ ⟨h1,h2⟩
 refine (okE.need (fun _=>by decide) h1).bind ?_
 intro _ _
 exact ⟨h1,h2⟩
theorem ok_fresh {had:List Bs} (hf:Q f) (h:∀ w ∈ ws,Q (wpos w)):okE Q (fun a=>∀ w ∈ a.2,Q (wpos w)) (freshP f had ws):=by
 unfold freshP
 refine (ok_name hf h).bind ?_
 rintro ⟨w,r⟩ ⟨h1,h2⟩
 refine (okE.need (fun _=>by decide) h1).bind ?_
 intro _ _
 exact h2
theorem ok_known {had:List Bs} (hf:Q f) (h:∀ w ∈ ws,Q (wpos w)):okE Q (fun a=>∀ w ∈ a.2,Q (wpos w)) (knownP f had ws):=by
 unfold knownP
 refine (ok_name hf h).bind ?_
 rintro ⟨w,r⟩ ⟨h1,h2⟩
 refine (okE.need (fun _=>by decide) h1).bind ?_
 intro _ _
 exact h2
theorem ok_number {most:Nat} (hf:Q f) (h:∀ w ∈ ws,Q (wpos w)):okE Q (fun a=>∀ w ∈ a.2,Q (wpos w)) (numberP f most ws):=by
 unfold numberP
 refine (ok_next hf h).bind ?_
 rintro ⟨w,r⟩ ⟨h1,h2⟩
 refine (okE.need (fun e=>of_decide_eq_false e) h1).bind ?_
 intro _ _
 refine (okE.need (fun _=>by decide) h1).bind ?_
 intro _ _
 exact h2
theorem ok_operand (hf:Q f) (h:∀ w ∈ ws,Q (wpos w)):okE Q (fun a=>∀ w ∈ a.2,Q (wpos w)) (operandP f ws):=by
 unfold operandP
 refine (ok_next hf h).bind ?_
 rintro ⟨w,r⟩ ⟨h1,h2⟩
 dsimp only at h1 h2 ⊢
 split
 ·refine (okE.need (fun e=>of_decide_eq_false e) h1).bind ?_
  intro _ _
  exact h2
 ·refine (okE.need (fun _=>by decide) h1).bind ?_
  intro _ _
  exact h2
theorem ok_operands (hf:Q f):∀ (n:Nat) {ws:List Wd},(∀ w ∈ ws,Q (wpos w))->okE Q (fun a=>∀ w ∈ a.2,Q (wpos w)) (operandsP f n ws)
 | 0,ws,h=>h
 | n+1,ws,h=>by
  unfold operandsP
  refine (ok_operand hf h).bind ?_
  rintro ⟨a,r⟩ h1
  refine (ok_operands hf n h1).bind ?_
  rintro ⟨l,q⟩ h3
  exact h3
theorem ok_rest (hf:Q f):∀ (ws:List Wd) (k:Nat),(∀ w ∈ ws,Q (wpos w))->okE Q (fun _=>True) (restP f k ws)
 | [],k,h=>trivial
 | a :: r,k,h=>by
  unfold restP
  have ha:=h a (List.mem_cons_self ..)
  refine (okE.need (fun _=>by decide) ha).bind ?_
  intro _ _
  refine (ok_operand hf (ws:=[a]) (fun w hw=>by rw [List.mem_singleton] at hw;rw [hw];exact ha)).bind ?_
  rintro ⟨x,r1⟩ _
  refine (ok_rest hf r (k+1) fun w hw=>h w (List.mem_cons_of_mem _ hw)).bind ?_
  intro _ _
  exact trivial
theorem ok_params (hf:Q f):∀ (ws:List Wd) (had:List Bs),(∀ w ∈ ws,Q (wpos w))->okE Q (fun _=>True) (paramsP f had ws)
 | [],had,h=>trivial
 | a :: r,had,h=>by
  unfold paramsP
  have ha:=h a (List.mem_cons_self ..)
  refine (okE.need (fun _=>by decide) ha).bind ?_
  intro _ _
  refine (ok_fresh hf (ws:=[a]) (fun w hw=>by rw [List.mem_singleton] at hw;rw [hw];exact ha)).bind ?_
  rintro ⟨x,r1⟩ _
  exact ok_params hf r _ fun w hw=>h w (List.mem_cons_of_mem _ hw)
theorem ok_site {sites:List Bs} (hf:Q f) (h:∀ w ∈ ws,Q (wpos w)):okE Q (fun a=>∀ w ∈ a.2.2,Q (wpos w)) (siteP f sites ws):=by
 unfold siteP
 refine (ok_next hf h).bind ?_
 rintro ⟨w,r⟩ ⟨h1,h2⟩
 refine (okE.need (fun _=>by decide) h1).bind ?_
 intro _ _
 refine (okE.need (fun _=>by decide) h1).bind ?_
 intro _ _
 exact h2
theorem ok_assign {S:PS} {dst:Bs} (hf:Q f) (h:∀ w ∈ ws,Q (wpos w)):okE Q (fun a=>∀ w ∈ a.2.2,Q (wpos w)) (assignP S f dst ws):=by
 unfold assignP
 refine (ok_next hf h).bind ?_
 rintro ⟨w,r⟩ ⟨h1,h2⟩
 refine (okE.need (fun _=>by decide) h1).bind ?_
 intro _ _
 refine (ok_next hf h2).bind ?_
 rintro ⟨v,q⟩ ⟨h3,h4⟩
 dsimp only at h1 h2 h3 h4 ⊢
 split
 ·refine (ok_known hf h4).bind ?_
  intro a k1
  refine (ok_operands hf 1 k1).bind ?_
  intro b k2
  exact k2
 split
 ·refine (ok_site hf h4).bind ?_
  intro a k1
  refine (ok_operands hf 1 k1).bind ?_
  intro b k2
  exact k2
 split
 ·refine (ok_name hf h4).bind ?_
  rintro a ⟨k1,k2⟩
  refine (ok_rest hf _ 0 k2).bind ?_
  intro b k2
  exact fun w hw=>by cases hw
 split
 ·refine (ok_operands hf _ h4).bind ?_
  intro b k2
  exact k2
 ·refine (ok_operands hf 1 h2).bind ?_
  intro b k2
  exact k2
theorem ok_instr {S:PS} {w:Wd} (hf:Q f) (hw:Q (wpos w)) (h:∀ w ∈ ws,Q (wpos w)):okE Q (fun a=>∀ w ∈ a.2.2.2,Q (wpos w)) (instrP S f w ws):=by
 unfold instrP
 split
 ·refine (ok_known hf h).bind ?_
  intro a k1
  refine (ok_operands hf 2 k1).bind ?_
  intro b k2
  exact k2
 split
 ·refine (ok_name hf h).bind ?_
  rintro a ⟨k1,k2⟩
  refine (ok_known hf k2).bind ?_
  intro b k3
  exact k3
 split
 ·refine (ok_known hf h).bind ?_
  intro a k1
  refine (ok_operands hf 1 k1).bind ?_
  intro b k2
  exact k2
 split
 ·refine (ok_name hf h).bind ?_
  rintro a ⟨k1,k2⟩
  exact k2
 split
 ·refine (ok_operands hf 1 h).bind ?_
  intro a k1
  refine (ok_name hf k1).bind ?_
  rintro b ⟨k2,k3⟩
  exact k3
 split
 ·exact h
 split
 ·refine (okE.need (fun _=>by decide) hf).bind ?_
  intro _ _
  refine (ok_operands hf 1 h).bind ?_
  intro a k1
  exact k1
 split
 ·refine (okE.need (fun _=>by decide) hw).bind ?_
  intro _ _
  exact h
 ·refine (okE.need (fun _=>by decide) hw).bind ?_
  intro _ _
  refine (ok_assign hf h).bind ?_
  intro a k1
  exact k1
end
structure PQ (Q:Int × Int->Prop) (p:Pg):Prop where
 fp:∀ g ∈ p.funcs,Q g.pos
 fc:∀ g ∈ p.funcs,∀ x ∈ g.code,Q x.pos
 mn:∀ x ∈ p.main,Q x.pos
section
variable {Q:Int × Int->Prop} {f:Int × Int} {ws:List Wd} {S:PS}
theorem code_pq (h:PQ Q S.p):∀ x ∈ codeP S,Q x.pos:=by
 unfold codeP
 split
 ·intro x hx
  cases hg:S.p.funcs.getLast? with
  | none=>rw [hg] at hx;cases hx
  | some f=>rw [hg] at hx;exact h.fc f (List.mem_of_getLast? hg) x hx
 ·exact h.mn
theorem put_pq (h:PQ Q S.p) {l:List In} (hl:∀ x ∈ l,Q x.pos):PQ Q (putCode S l):=by
 unfold putCode
 split
 ·cases hq:S.p.funcs.getLast? with
  | none => 
   refine ⟨fun g hg=>?_,fun g hg=>?_,h.mn⟩
   ·rcases List.mem_append.1 hg with hg | hg
    ·exact h.fp g (List.dropLast_subset _ hg)
    ·cases hg
   ·rcases List.mem_append.1 hg with hg | hg
    ·exact h.fc g (List.dropLast_subset _ hg)
    ·cases hg
  | some f =>
   have hf:=List.mem_of_getLast? hq
   refine ⟨fun g hg=>?_,fun g hg=>?_,h.mn⟩
   ·rcases List.mem_append.1 hg with hg | hg
    ·exact h.fp g (List.dropLast_subset _ hg)
    ·simp only [hq,Option.map_some,Option.toList_some,List.mem_singleton] at hg;subst hg;exact h.fp f hf
   ·rcases List.mem_append.1 hg with hg | hg
    ·exact h.fc g (List.dropLast_subset _ hg)
    ·simp only [hq,Option.map_some,Option.toList_some,List.mem_singleton] at hg;subst hg;exact hl
 ·exact ⟨h.fp,h.fc,hl⟩
theorem ok_instruct {w:Wd} (hp:PQ Q S.p) (hw:Q (wpos w)) (h:∀ w ∈ ws,Q (wpos w)):okE Q (fun S':PS=>PQ Q S'.p) (instructP S w ws):=by
 unfold instructP
 split
 ·refine (ok_end h).bind ?_
  intro _ _
  exact hp
 ·refine (okE.need (fun _=>by decide) hw).bind ?_
  intro _ _
  refine (ok_instr hw hw h).bind ?_
  rintro ⟨x,l1,s1,r1⟩ k1
  refine (ok_end k1).bind ?_
  intro _ _
  refine put_pq hp fun y hy=>?_
  rcases List.mem_append.1 hy with hy | hy
  ·exact code_pq hp y hy
  ·rw [List.mem_singleton] at hy;subst hy;exact hw
theorem ok_declare {w:Wd} (hp:PQ Q S.p) (hw:Q (wpos w)) (h:∀ w ∈ ws,Q (wpos w)):okE Q (fun S':PS=>PQ Q S'.p) (declareP S w ws):=by
 unfold declareP
 split
 ·refine (ok_number hw h).bind ?_
  intro a k1
  refine (ok_end k1).bind ?_
  intro _ _
  exact ⟨hp.fp,hp.fc,hp.mn⟩
 split
 ·refine (okE.need (fun _=>by decide) hw).bind ?_
  intro _ _
  refine (ok_fresh hw h).bind ?_
  intro a k1
  refine (ok_end k1).bind ?_
  intro _ _
  exact ⟨hp.fp,hp.fc,hp.mn⟩
 split
 ·refine (okE.need (fun _=>by decide) hw).bind ?_
  intro _ _
  refine (ok_fresh hw h).bind ?_
  intro a k1
  refine (ok_number hw k1).bind ?_
  intro b k2
  refine (ok_end k2).bind ?_
  intro _ _
  exact ⟨hp.fp,hp.fc,hp.mn⟩
 split
 ·refine (okE.need (fun _=>by decide) hw).bind ?_
  intro _ _
  refine (ok_fresh hw h).bind ?_
  intro a k1
  refine (ok_params hw _ _ k1).bind ?_
  intro l _
  refine ⟨fun g hg=>?_,fun g hg=>?_,hp.mn⟩
  ·rcases List.mem_append.1 hg with hg | hg
   ·exact hp.fp g hg
   ·rw [List.mem_singleton] at hg;subst hg;exact hw
  ·rcases List.mem_append.1 hg with hg | hg
   ·exact hp.fc g hg
   ·rw [List.mem_singleton] at hg;subst hg;exact fun x hx=>by cases hx
 split
 ·refine (ok_end h).bind ?_
  intro _ _
  exact hp
 ·exact ⟨by show (4:Int) ≠ 0;decide,hw⟩
theorem ok_line {l:List Wd} (hp:PQ Q S.p) (hl:l ≠ []) (h:∀ w ∈ l,Q (wpos w)):okE Q (fun S':PS=>PQ Q S'.p) (lineP S l):=by
 cases l with
 | nil=>exact absurd rfl hl
 | cons a r =>
  have ha:=h a (List.mem_cons_self ..)
  have hr:∀ w ∈ r,Q (wpos w):=fun w hw=>h w (List.mem_cons_of_mem _ hw)
  unfold lineP
  dsimp only
  split
  ·exact ok_declare hp ha hr
  split
  ·exact ⟨by show (4:Int) ≠ 0;decide,ha⟩
  ·exact ok_instruct hp ha hr
theorem ok_lines:∀ (o:List (List Wd)) {S:PS},PQ Q S.p->(∀ l ∈ o,l ≠ []/\∀ w ∈ l,Q (wpos w))->okE Q (fun S':PS=>PQ Q S'.p) (linesP S o)
 | [],S,hp,h=>hp
 | l :: r,S,hp,h=>by
  unfold linesP
  refine (ok_line hp (h l (List.mem_cons_self ..)).1 (h l (List.mem_cons_self ..)).2).bind ?_
  intro S' h'
  exact ok_lines r h' fun k hk=>h k (List.mem_cons_of_mem _ hk)
end
theorem parse_code {s:Bs} {f:Flt} (h:parseE s = .error f):f.2 ≠ 0:=by
 unfold parseE at h
 split at h
 ·injection h with h;subst h;show (5:Int) ≠ 0;decide
 ·rename_i hl
  split at h
  ·injection h with h;subst h;show (4:Int) ≠ 0;decide
  ·rename_i o ho
   have hw:=tok_wok (by omega) ho
   have h1:=ok_lines (Q:=fun _=>True) o (S:=ps0P) ⟨fun _ _=>trivial,fun _ _ _ _=>trivial,fun _ _=>trivial⟩ fun l hl=>⟨(hw l hl).ne,fun _ _=>trivial⟩
   have h2:okE (fun _=>True) (fun _:Pg=>True) (linesP ps0P o >>= fun st=>needM (decide (st.inn=3)) (endOf s) 4 >>= fun _=>needM (decide ((checkM st.p).2=0)) (checkM st.p).1 (checkM st.p).2 >>= fun _=>pure st.p):=by
    refine h1.bind fun S hS=>?_
    refine (okE.need (fun _=>by decide) trivial).bind fun _ _=>?_
    refine (okE.need (fun e=>of_decide_eq_false e) trivial).bind fun _ _=>?_
    exact trivial
   rw [show (linesP ps0P o >>= fun st=>needM (decide (st.inn=3)) (endOf s) 4 >>= fun _=>needM (decide ((checkM st.p).2=0)) (checkM st.p).1 (checkM st.p).2 >>= fun _=>pure st.p) = .error f from h] at h2
   exact h2.1
theorem again {l:Bs} {p:Pg} (h:parseE l = .ok p) (hl:l.length<=2000):printM p=(textT (linesT p),0)/\∃ r,parseE (textT (linesT p)) = .ok r/\bareP r=bareP p/\printM r=(textT (linesT p),0):=by
 obtain ⟨hc,hk,_⟩:=parse_cd h
 have hs:=text_short h
 have hp:printM p=(textT (linesT p),0):=by unfold printM;rw [if_neg (by rw [hk];decide),if_neg (by omega)]
 obtain ⟨r,hr,hb⟩:=parse_print p hk hc.num (by omega)
 obtain ⟨hcr,hkr,_⟩:=parse_cd hr
 refine ⟨hp,r,hr,hb,?_⟩
 have e:=(text_iff r p hkr hk hcr.num hc.num).2 hb
 unfold printM
 rw [if_neg (by rw [hkr];decide),e,if_neg (by omega)]
end Go.Proofs.YtoofbgoeipijcaaGreatDoor
