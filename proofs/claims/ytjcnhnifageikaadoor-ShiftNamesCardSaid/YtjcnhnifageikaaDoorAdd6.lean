/-
  The walk of package adder's Add.
-/
import Derived.Test.YtjcnhnifageikaaDoorAdd5
import Derived.Laws.EntriesVeiled
namespace Go.Proofs.YtjcnhnifageikaaDoor
set_option linter.unusedSimpArgs false
set_option linter.unusedVariables false
open Go.RowKit Go.Shelf
attribute [local go_sem] Oper.semAt_some

/-- append, as one operation inside a fence. -/
theorem wpIn_app {F : Fence} {n0 : Nat} {P : Program} {w : World} (hF : ∀ f, F.fn f) {R : Nat → Prop} {o : Oper} {a : Act} {K : Act → World → Prop} {Q : Exit → Act → World → Prop} (s x : Operand) (t : TypeId)
    (ho : o.op = .call { callee := .builtin .append, args := #[s, x], argTypes := #[t, t] })
    (base : Nat) (e : TypeId) (z : Value) (bytes : Nat) (ht : P.underlying t = some (.slice e))
    (hinfo : (P.info? e).map (fun i => (i.zero, i.size, i.bytes)) = some (some z, 1, bytes)) (hzs : z.cells.size = 1)
    (v : Value) (n : Nat) (xs : List Value) (hs : a.eval s = v) (hown : w.ownsRow base e 1 v n xs)
    (p : Option Addr) (m c : Nat) (news : List Value) (hx : a.eval x = .slice p m c) (hm : m = news.length) (hr : RowR R w p news) (h1 : ∀ u ∈ news, u.oneCell' = true)
    (hsz : (n + m) * bytes ≤ 140737488355328) (h63 : n + m ≤ maxLen) (hbase : base ≤ w.heap.size)
    (h : ∀ v' w', w'.ownsRow base e 1 v' (n + m) (xs ++ news) → w.grownBy w' v.ownBlock → (v'.ownBlock = v.ownBlock ∨ v'.ownBlock = some w.heap.size) → K (a.put o.dst v') w') : o.wpIn F n0 P a w K Q := by
  obtain ⟨v', w', hrun, h2, h3, h4⟩ := run_app (P := P) w base t o.type e z bytes ht hinfo hzs v n xs hown p m c news hm hr h1 hsz h63 hbase
  refine ⟨fun f _ => hF f, ?_⟩
  rw [Oper.semAt_eq _ _ _ (fun c e => by rw [ho] at e; cases e)]
  unfold execOp
  simp only [ho, resolve, invoke, builtin, Sem.run_bind, Sem.run_pure, Result.andThen_ok, List.map_toArray, List.map_cons, List.map_nil, hs, hx, hrun, Oper.uponIn]
  exact h v' w' h2 h3 h4

/-- A block that such a step makes is none of the builder's. -/
theorem IsB.grown_new {w w' : World} {bb : Nat} {F : Form} {row : Option Nat} (h : IsB w bb F) (hg : w.grownBy w' row) (hr : ∀ r, row = some r → Away bb w r) {k : Nat} (h1 : w.heap.size ≤ k) (h2 : k < w'.heap.size) : Away bb w' k := by
  have hlt := h.lt
  have hbl := fun {k} (hk : bblk w bb = some k) => h.bblk_lt hk
  obtain ⟨v, vs, hh, ho, hne, hl, hc, hrd⟩ := h.ex
  have hb : ∀ k, k < w.heap.size → (∀ r, row = some r → k ≠ r) → w'.heap[k]? = w.heap[k]? := fun k hk hk' => hg.block k hk (fun e => hk' k e.symm rfl)
  have hh' := (hb bb hlt (fun r e => (hr r e).ne.symm)).trans hh
  have ho' : w'.ownsRow 0 23 1 v vs.length vs := by
    refine ho.kept hg ?_
    cases hv : v.ownBlock with
    | none => exact .inl rfl
    | some g =>
      refine .inr fun e => ?_
      have := (hr g e.symm).1.2.2
      rw [bblk_of hh, hv] at this
      exact this rfl
  refine ⟨⟨h2, by omega, fun e => ?_⟩, fun e => ?_⟩
  · rw [bblk_of hh', ← bblk_of hh] at e
    have := hbl e
    omega
  · obtain ⟨u, hu, hk⟩ := (bcl_of hh' ho').1 e
    have := (hrd u hu k hk).size
    omega
theorem IsM.grown_new {w w' : World} {mb bb : Nat} {s : MS} {row : Option Nat} (h : IsM w mb bb s) (hg : w.grownBy w' row) (hr : ∀ r, row = some r → AwayM mb bb w r) {k : Nat} (h1 : w.heap.size ≤ k) (h2 : k < w'.heap.size) : AwayM mb bb w' k :=
  ⟨h.b.grown_new hg (fun r e => (hr r e).1) h1 h2, by have := h.away.size; omega⟩

abbrev WOut := List Int × Int × Form
def addM (F : Form) (xs ys : List Int) (carry : Int) : WOut :=
  if checkM F [carry] [xs, ys] = 0 then
    let st := addF (F, 0) carry (xs.zip ys)
    if st.2.2.2 = 0 then (st.1, 0, st.2.2.1) else ([], st.2.2.2, st.2.2.1)
  else ([], checkM F [carry] [xs, ys], F)

/-- What a function that returns a word comes to. -/
def WPost (bb : Nat) (w : World) (r : WOut) (e : Ending) (w' : World) : Prop :=
  ∃ v, e = .returned (.tuple #[v, .int .i64 r.2.1]) ∧ Ints (Away bb w') w' v r.1 ∧ IsB w' bb r.2.2 ∧ FrB bb w w'

theorem check_zero {F : Form} {single : List Int} {words : List (List Int)} (h : checkM F single words = 0) :
    (∀ l ∈ words, 1 ≤ l.length ∧ l.length ≤ 64 ∧ l.length = (words.headD []).length) ∧ ∀ l ∈ single :: words, hasAll F.vars l = true := by
  unfold checkM at h
  split at h
  · rename_i h1
    split at h
    · rename_i h2
      refine ⟨fun l hl => ?_, fun l hl => List.all_eq_true.1 h2 l hl⟩
      have := List.all_eq_true.1 h1 l hl
      simpa [goodLen] using this
    · cases h
  · cases h
theorem check_two {F : Form} {single xs ys : List Int} (h : checkM F single [xs, ys] = 0) : 1 ≤ xs.length ∧ xs.length ≤ 64 ∧ ys.length = xs.length ∧ hasAll F.vars single = true ∧ hasAll F.vars xs = true ∧ hasAll F.vars ys = true := by
  obtain ⟨h1, h2⟩ := check_zero h
  have a := h1 xs (by simp)
  have b := h1 ys (by simp)
  exact ⟨a.1, a.2.1, b.2.2, h2 _ (by simp), h2 _ (by simp), h2 _ (by simp)⟩
theorem hasAll_bd {n : Nat} {l : List Int} (hn : n ≤ 1048576) (h : hasAll n l = true) : ∀ x ∈ l, Bd x := fun x hx => Bd.lit hn (List.all_eq_true.1 h x hx)

end Go.Proofs.YtjcnhnifageikaaDoor
