/-
  One operation of a drawn region inside a fence: append; and where two operations may come up.
-/
import Derived.Test.YtehjfmbnebeioaaDoorReg
import Derived.Test.YtehjfmbnebeioaaDoorApp
namespace Go.Proofs.YtehjfmbnebeioaaDoor
set_option linter.unusedSimpArgs false
set_option linter.unusedVariables false
open Go.RowKit
/-- append, as one operation inside a fence. -/
theorem wpIn_apd {F : Fence} {n0 : Nat} {P : Program} {w : World} (hF : ∀ f, F.fn f) {R : Nat → Prop} {o : Oper} {a : Act} {K : Act → World → Prop} {Q : Exit → Act → World → Prop} (s x : Operand) (t : TypeId)
    (ho : o.op = .call { callee := .builtin .append, args := #[s, x], argTypes := #[t, t] })
    (base : Nat) (e : TypeId) (z : Value) (bytes : Nat) (ht : P.underlying t = some (.slice e))
    (hinfo : (P.info? e).map (fun i => (i.zero, i.size, i.bytes)) = some (some z, 1, bytes)) (hzs : z.cells.size = 1)
    (v : Value) (n : Nat) (xs : List Value) (hs : a.eval s = v) (hown : w.ownsRow base e 1 v n xs)
    (p : Option Addr) (m c : Nat) (news : List Value) (hx : a.eval x = .slice p m c) (hm : m = news.length) (hr : RowR R w p news) (h1 : ∀ u ∈ news, u.oneCell' = true)
    (hsz : (n + m) * bytes ≤ 140737488355328) (h63 : n + m ≤ maxLen) (hbase : base ≤ w.heap.size)
    (h : ∀ v' w', w'.ownsRow base e 1 v' (n + m) (xs ++ news) → w.grownBy w' v.ownBlock → (v'.ownBlock = v.ownBlock ∨ v'.ownBlock = some w.heap.size) → K (a.put o.dst v') w') : o.wpIn F n0 P a w K Q := by
  obtain ⟨v', w', hrun, h2, h3, h4⟩ := run_app (P := P) w base t o.type e z bytes ht hinfo hzs v n xs hown p m c news hm hr h1 hsz h63 hbase
  refine ⟨fun f _ => hF f, ?_⟩
  rw [Oper.semAt_eq _ _ _ (fun c e => by rw [ho] at e; cases e)]
  unfold execOp
  simp only [ho, resolve, invoke, builtin, Sem.run_bind, Sem.run_pure, Result.andThen_ok, List.map_toArray, List.map_cons, List.map_nil, hs, hx, hrun, Oper.uponIn]
  exact h v' w' h2 h3 h4
section
variable {Fe : Fence} {n : Nat} {P : Program} {ops : Array Oper} {Q : Exit → Act → World → Prop} {md : Region.Mode} {S : World → Prop}
/-- Two may come up: either way. -/
theorem wpHJ_both (i j : Nat) {z : Nat} {oi oj : Oper} {fuel : Nat} {listed : Array Bool} {a : Act} {w : World} (hr : Region.ready md ops listed = [i, j]) (hi : ops[i]? = some oi) (hj : ops[j]? = some oj)
    (h : ∀ K : Act → World → Prop, (∀ a' w', (i = z ∨ listed.getD z false = true ∨ S w') → wpHJ Fe n P md ops Q S z fuel (listed.setIfInBounds i true) a' w' → K a' w') →
      if Region.wanted oi (yielded ops a.tmps) then oi.wpIn Fe n P a w K Q else (∀ f, oi.about P w a.eval = some f → Fe.fn f) ∧ K (a.put oi.dst undef) w)
    (h' : ∀ K : Act → World → Prop, (∀ a' w', (j = z ∨ listed.getD z false = true ∨ S w') → wpHJ Fe n P md ops Q S z fuel (listed.setIfInBounds j true) a' w' → K a' w') →
      if Region.wanted oj (yielded ops a.tmps) then oj.wpIn Fe n P a w K Q else (∀ f, oj.about P w a.eval = some f → Fe.fn f) ∧ K (a.put oj.dst undef) w) :
    wpHJ Fe n P md ops Q S z (fuel + 1) listed a w := by
  refine ⟨fun h0 => (by rw [h0] at hr; cases hr), fun k hk => ?_⟩
  rw [hr] at hk
  simp only [List.mem_cons, List.not_mem_nil, or_false] at hk
  rcases hk with rfl | rfl
  · unfold wpOpIn
    simp only [hi]
    exact h _ (fun a' w' h1 h2 => ⟨h1, h2⟩)
  · unfold wpOpIn
    simp only [hj]
    exact h' _ (fun a' w' h1 h2 => ⟨h1, h2⟩)
/-- Three may come up: any of them. -/
theorem wpHJ_three (i j l : Nat) {z : Nat} {oi oj ol : Oper} {fuel : Nat} {listed : Array Bool} {a : Act} {w : World} (hr : Region.ready md ops listed = [i, j, l]) (hi : ops[i]? = some oi) (hj : ops[j]? = some oj) (hl : ops[l]? = some ol)
    (h : ∀ K : Act → World → Prop, (∀ a' w', (i = z ∨ listed.getD z false = true ∨ S w') → wpHJ Fe n P md ops Q S z fuel (listed.setIfInBounds i true) a' w' → K a' w') →
      if Region.wanted oi (yielded ops a.tmps) then oi.wpIn Fe n P a w K Q else (∀ f, oi.about P w a.eval = some f → Fe.fn f) ∧ K (a.put oi.dst undef) w)
    (h' : ∀ K : Act → World → Prop, (∀ a' w', (j = z ∨ listed.getD z false = true ∨ S w') → wpHJ Fe n P md ops Q S z fuel (listed.setIfInBounds j true) a' w' → K a' w') →
      if Region.wanted oj (yielded ops a.tmps) then oj.wpIn Fe n P a w K Q else (∀ f, oj.about P w a.eval = some f → Fe.fn f) ∧ K (a.put oj.dst undef) w)
    (h'' : ∀ K : Act → World → Prop, (∀ a' w', (l = z ∨ listed.getD z false = true ∨ S w') → wpHJ Fe n P md ops Q S z fuel (listed.setIfInBounds l true) a' w' → K a' w') →
      if Region.wanted ol (yielded ops a.tmps) then ol.wpIn Fe n P a w K Q else (∀ f, ol.about P w a.eval = some f → Fe.fn f) ∧ K (a.put ol.dst undef) w) :
    wpHJ Fe n P md ops Q S z (fuel + 1) listed a w := by
  refine ⟨fun h0 => (by rw [h0] at hr; cases hr), fun k hk => ?_⟩
  rw [hr] at hk
  simp only [List.mem_cons, List.not_mem_nil, or_false] at hk
  rcases hk with rfl | rfl | rfl
  · unfold wpOpIn
    simp only [hi]
    exact h _ (fun a' w' h1 h2 => ⟨h1, h2⟩)
  · unfold wpOpIn
    simp only [hj]
    exact h' _ (fun a' w' h1 h2 => ⟨h1, h2⟩)
  · unfold wpOpIn
    simp only [hl]
    exact h'' _ (fun a' w' h1 h2 => ⟨h1, h2⟩)
/-- From here on more holds behind every operation. -/
theorem wpHJ_more (S' : World → Prop) (hS : ∀ w, S' w → S w) {z : Nat} : ∀ (fuel : Nat) (listed : Array Bool) (a : Act) (w : World), wpHJ Fe n P md ops Q S' z fuel listed a w → wpHJ Fe n P md ops Q S z fuel listed a w
  | 0, _, _, _, h => h
  | fuel + 1, _, _, _, h => ⟨h.1, fun i hi => wpOpIn_mono (fun a' w' h' => ⟨h'.1.imp id (·.imp id (hS w')), wpHJ_more S' hS fuel _ a' w' h'.2⟩) (h.2 i hi)⟩
end
end Go.Proofs.YtehjfmbnebeioaaDoor
