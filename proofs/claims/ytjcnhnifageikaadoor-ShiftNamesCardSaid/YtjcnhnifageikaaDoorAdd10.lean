/-
  The walks of package adder's Less.
-/
import Derived.Test.YtjcnhnifageikaaDoorAdd9
import Derived.Test.YtjcnhnifageikaaDoorDec2
import Derived.Test.YtjcnhnifageikaaDoorReg
namespace Go.Proofs.YtjcnhnifageikaaDoor
set_option linter.unusedSimpArgs false
set_option linter.unusedVariables false
open Go.RowKit Go.Shelf
attribute [local go_sem] Oper.semAt_some


theorem wpListIn_app {F : Fence} {n0 : Nat} {P : Program} {w : World} (hF : ∀ f, F.fn f) {R : Nat → Prop} {ops : Array Oper} {rest : List Oper} {o : Oper} {a : Act} {Q : Exit → Act → World → Prop} (hgd : o.guard = none) (s x : Operand) (t : TypeId)
    (ho : o.op = .call { callee := .builtin .append, args := #[s, x], argTypes := #[t, t] })
    (base : Nat) (e : TypeId) (z : Value) (bytes : Nat) (ht : P.underlying t = some (.slice e))
    (hinfo : (P.info? e).map (fun i => (i.zero, i.size, i.bytes)) = some (some z, 1, bytes)) (hzs : z.cells.size = 1)
    (v : Value) (n : Nat) (xs : List Value) (hs : a.eval s = v) (hown : w.ownsRow base e 1 v n xs)
    (p : Option Addr) (m c : Nat) (news : List Value) (hx : a.eval x = .slice p m c) (hm : m = news.length) (hr : RowR R w p news) (h1 : ∀ u ∈ news, u.oneCell' = true)
    (hsz : (n + m) * bytes ≤ 140737488355328) (h63 : n + m ≤ maxLen) (hbase : base ≤ w.heap.size)
    (h : ∀ v' w', w'.ownsRow base e 1 v' (n + m) (xs ++ news) → w.grownBy w' v.ownBlock → (v'.ownBlock = v.ownBlock ∨ v'.ownBlock = some w.heap.size) → wpListIn F n0 P ops Q rest (a.put o.dst v') w') : wpListIn F n0 P ops Q (o :: rest) a w :=
  wpListIn_plain hgd fun _ hK => wpIn_app hF s x t ho base e z bytes ht hinfo hzs v n xs hs hown p m c news hx hm hr h1 hsz h63 hbase fun v' w' h2 h3 h4 => hK _ _ (h v' w' h2 h3 h4)

theorem cell_far (w : World) (b i b' j : Nat) (v : Value) (h : b ≠ b') : (w.setCell ⟨b, i, none⟩ v).cell? ⟨b', j, none⟩ = w.cell? ⟨b', j, none⟩ := World.cell?_of_block (a := ⟨b', j, none⟩) (Below.heap_setCell _ _ _ _ (Ne.symm h))
theorem cell_same {w : World} {b i : Nat} {u : Value} (v : Value) (h : w.cell? ⟨b, i, none⟩ = some u) : (w.setCell ⟨b, i, none⟩ v).cell? ⟨b, i, none⟩ = some v := World.cell?_setCell_same (w := w) (a := ⟨b, i, none⟩) (v := v) h
theorem cell_other (w : World) (b i j : Nat) (v : Value) (h : i ≠ j) : (w.setCell ⟨b, i, none⟩ v).cell? ⟨b, j, none⟩ = w.cell? ⟨b, j, none⟩ := World.cell?_setCell_other (w := w) (a := ⟨b, i, none⟩) (b := ⟨b, j, none⟩) (v := v) (by intro e; injection e with _ e; exact h e)
/-- An owned row that is not empty, as a walk reads and writes it. -/
theorem owns_open {w : World} {base e n : Nat} {v : Value} {xs : List Value} (h : w.ownsRow base e 1 v n xs) (h1 : 1 ≤ n) :
    ∃ g c, v = .slice (some ⟨g, 0, none⟩) n c ∧ base ≤ g ∧ g < w.heap.size ∧ (∀ j (hj : j < xs.length), w.cell? ⟨g, j, none⟩ = some xs[j]) ∧ ∀ j, j < n → w.frozen? ⟨g, j, none⟩ = false := by
  have hl := h.1
  rcases h.2 with ⟨_, h0⟩ | ⟨g, cap, cur, rfl, hb, hg, hnc, hcm, hcs, ht⟩
  · omega
  · refine ⟨g, cap, rfl, hb, (h.lt g rfl).2, fun j hj => ?_, fun j hj => ?_⟩
    · rw [h.cellAt j (by omega)]; exact List.getElem?_eq_getElem hj
    · exact h.frozenAt j

/-- A row whose last cell is turned. -/
theorem row_turn {R' : Nat → Prop} {w w' : World} {g n : Nat} {xs : List Int} (hn : n = xs.length) (h1 : 1 ≤ n) (hc : ∀ j (hj : j < (xs.map (Value.int .i64)).length), w.cell? ⟨g, j, none⟩ = some (xs.map (Value.int .i64))[j]) (hR : R' g)
    (hset : w'.cell? ⟨g, n - 1, none⟩ = some (.int .i64 (-(xs.getD (n - 1) 0)))) (hoth : ∀ j, j ≠ n - 1 → w'.cell? ⟨g, j, none⟩ = w.cell? ⟨g, j, none⟩) : RowR R' w' (some ⟨g, 0, none⟩) ((turnM xs).map (Value.int .i64)) := by
  subst hn
  refine .inr ⟨g, 0, rfl, hR, fun j hj => ?_⟩
  have hj2 : j < xs.length := by rw [List.length_map, turn_len] at hj; exact hj
  rw [Nat.zero_add]
  by_cases e : j = xs.length - 1
  · subst e; rw [hset]; simp [turnM]
  · rw [hoth j e, hc j (by simpa using hj2)]
    simp only [List.getElem_map, turnM]
    rw [List.getElem_set_ne (by omega)]

end Go.Proofs.YtjcnhnifageikaaDoor
