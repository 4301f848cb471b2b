/-
  Blocks of cells that are known whole.
  Records appended to a slice under way: one law at the operation, for any kind of records.
-/
import Derived.Test.YtoofbgoeipijcaaDoorSPrC
import Derived.Test.YtoofbgoeipijcaaDoorSPrM
namespace Go.Proofs.YtoofbgoeipijcaaDoor
set_option linter.unusedSimpArgs false
set_option linter.unusedVariables false
open Go.RowKit Go.Shelf

/-- A block of cells that is known whole. -/
def BxL (t : TypeId) (b : Nat) (cs : List Value) (W : World) : Prop := W.heap[b]? = some (.cells cs.toArray t (0, 0))
theorem BxL.new (t : TypeId) (W : World) (cs : List Value) : BxL t W.heap.size cs (W.alloc (.cells cs.toArray t)) := by unfold BxL; rw [heap_al, if_pos rfl]
theorem BxL.lt {t : TypeId} {b : Nat} {cs : List Value} {W : World} (h : BxL t b cs W) : b < W.heap.size := (Array.getElem?_eq_some_iff.1 h).1
theorem BxL.keep {t : TypeId} {b : Nat} {cs : List Value} {W W' : World} (h : BxL t b cs W) (e : W'.heap[b]? = W.heap[b]?) : BxL t b cs W' := e.trans h
theorem BxL.bel {t : TypeId} {b : Nat} {cs : List Value} {W W' : World} (h : BxL t b cs W) (hb : Below W.heap.size W W') : BxL t b cs W' := h.keep (hb.block b h.lt)
theorem BxL.al {t : TypeId} {b : Nat} {cs : List Value} {W : World} (h : BxL t b cs W) (o : Obj) : BxL t b cs (W.alloc o) := h.bel ((Below.refl _ _).alloc (Nat.le_refl _) _)
theorem BxL.at {t : TypeId} {b : Nat} {cs : List Value} {W : World} (h : BxL t b cs W) (i : Nat) {v : Value} (hv : cs[i]? = some v) : W.cell? ⟨b, i, none⟩ = some v := by
  unfold BxL at h
  simp [World.cell?, h, hv]
theorem BxL.fr {t : TypeId} {b : Nat} {cs : List Value} {W : World} (h : BxL t b cs W) (i : Nat) : W.frozen? ⟨b, i, none⟩ = false := by
  unfold BxL at h
  simp [World.frozen?, h]
/-- The seven cells of an instruction. -/
abbrev inL (x : In) (av : Value) : List Value := [.int .u8 (x.kind : Int), .int .u8 (x.op : Int), .string ⟨x.dst.toArray⟩, .string ⟨x.nm.toArray⟩, av, .int .i64 x.pos.1, .int .i64 x.pos.2]
theorem wrap_next {k L : Nat} (h : k < L) (hL : L ≤ 140737488355328) : wrap64 ((k : Int) + 1) = ((k + 1 : Nat) : Int) := by
  have : wrap64 ((k : Int) + 1) = (k : Int) + 1 := by unfold wrap64; omega
  rw [this]; rfl
theorem meas_next {k L : Nat} (h : k < L) (hL : L ≤ 140737488355328) : L - (intOf (.int .i64 (wrap64 ((k : Int) + 1)))).toNat < L - (intOf (.int .i64 (k : Int))).toNat := by
  rw [wrap_next h hL]; show L - ((k + 1 : Nat) : Int).toNat < L - ((k : Nat) : Int).toNat; omega
theorem BxL.set {t : TypeId} {b : Nat} {cs : List Value} {W : World} (h : BxL t b cs W) (i : Nat) (v : Value) : BxL t b (cs.set i v) (W.setCell ⟨b, i, none⟩ v) := by
  unfold BxL at h ⊢
  simp only [World.setCell, Array.getElem?_modify]
  rw [h]
  simp
theorem heap_ot {W : World} {b i k : Nat} (h : k ≠ b) (v : Value) : (W.setCell ⟨b, i, none⟩ v).heap[k]? = W.heap[k]? := Below.heap_setCell _ _ _ _ h

end Go.Proofs.YtoofbgoeipijcaaDoor

namespace Go.Proofs.YtoofbgoeipijcaaDoor
set_option linter.unusedSimpArgs false
set_option linter.unusedVariables false
open Go.RowKit Go.Shelf

/-- Where the slice lies behind an append: in its own block, or in a new one. -/
def Moved (w : World) (v v' : Value) : Prop := v'.ownBlock = v.ownBlock ∨ ∃ k, v'.ownBlock = some k ∧ w.heap.size ≤ k
theorem Moved.refl (w : World) (v : Value) : Moved w v v := .inl rfl
theorem Moved.trans {w w' : World} {a b c : Value} (h : Moved w a b) (hs : w.heap.size ≤ w'.heap.size) (k : Moved w' b c) : Moved w a c := by
  rcases k with k | ⟨j, k, hj⟩
  · rcases h with h | ⟨i, h, hi⟩
    · exact .inl (k.trans h)
    · exact .inr ⟨i, k.trans h, hi⟩
  · exact .inr ⟨j, k, by omega⟩
section
variable {P : Program}
theorem wpList_push {α : Type} {K : EK α} {B : Nat} {w : World} {v : Value} {l : List α} {x : α} {cs : List Value} {te : TypeId} {ops : Array Oper} {rest : List Oper} {o : Oper} {a : Act} {Q : Exit → Act → World → Prop}
    (hgd : o.guard = none) (s y : Operand) (t : TypeId) (ho : o.op = .call { callee := .builtin .append, args := #[s, y], argTypes := #[t, t] }) (ht : P.underlying t = some (.slice te))
    (z : Value) (bytes : Nat) (hinfo : (P.info? te).map (fun i => (i.zero, i.size, i.bytes)) = some (some z, K.n, bytes)) (hzs : z.cells.size = K.n)
    (h : GA K B te w v l) (hx : K.E (fun k => k < w.heap.size ∧ v.ownBlock ≠ some k) w cs x) (hs : a.eval s = v) (hy : a.eval y = .slice (some ⟨w.heap.size, 0, none⟩) 1 1)
    (hl : (l.length + 1) * bytes ≤ 140737488355328) (h63 : l.length + 1 ≤ maxLen) (hB : B ≤ w.heap.size)
    (hK : ∀ v' w', GA K B te w' v' (l ++ [x]) → (w.alloc (.cells cs.toArray te)).grownBy w' v.ownBlock → Moved w v v' → wpList P ops Q rest (a.put o.dst v') w') :
    wpList P ops Q (o :: rest) a (w.alloc (.cells cs.toArray te)) := by
  obtain ⟨css, h1, h2⟩ := h.row
  refine wpList_appG (R := fun _ => True) _ hgd s y t ho B te z K.n bytes ht hinfo hzs K.pos v l.length css.flatten hs (h2.alloc _) ⟨w.heap.size, 0, none⟩ 1 1 cs hy (by rw [K.len hx]; omega) (RowR.lit w cs te trivial) (K.one hx) hl h63 (by rw [World.size_alloc]; omega) ?_
  intro v' w' ho' hg hv
  refine hK v' w' ?_ hg ?_
  · exact GA.push h1 (fun k hk => (h2.lt k hk).2) hx hg ho' hv
  · rcases hv with e | e
    · exact .inl e
    · exact .inr ⟨_, e, by rw [World.size_alloc]; omega⟩
end
theorem GA.below {α : Type} {K : EK α} {B e : Nat} {w w' : World} {v : Value} {l : List α} (h : GA K B e w v l) {o : Obj} (hb : Below B w w) (hg : (w.alloc o).grownBy w' v.ownBlock) (hB : B ≤ w.heap.size) : Below B w w' := by
  refine ⟨hg.os, hg.tape, hg.output, Nat.le_trans (by rw [World.size_alloc]; omega) hg.size, fun k hk => ?_⟩
  rw [hg.block k (by rw [World.size_alloc]; omega) (fun e => by have := (h.lt k e.symm).1; omega), heap_al, if_neg (by omega)]
/-- The world behind an append, seen from an older one. -/
theorem below_push {α : Type} {K : EK α} {B e : Nat} {w0 w w' : World} {v : Value} {l : List α} (h : GA K B e w v l) {o : Obj} (hb : Below B w0 w) (hg : (w.alloc o).grownBy w' v.ownBlock) (hB : B ≤ w.heap.size) : Below B w0 w' :=
  hb.trans (h.below (Below.refl _ _) hg hB)

end Go.Proofs.YtoofbgoeipijcaaDoor
