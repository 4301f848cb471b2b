/-
  Package muldiv: numbers as bits (plain); the walks of check and sum.
  Package muldiv: the walk of Mul.
  Package muldiv: the walk of Mul (its rows, its loops).
-/
import Derived.Test.YtjcnhnifageikaaDoorKit
namespace Go.Proofs.YtjcnhnifageikaaDoor
set_option linter.unusedSimpArgs false
set_option linter.unusedVariables false
open Go.RowKit Go.Shelf

/-! ### numbers as bits -/
/-- The lowest n bits of v. -/
def ofB : Nat → Nat → List Bool
  | 0, _ => []
  | n + 1, v => decide (v % 2 = 1) :: ofB n (v / 2)
theorem ofB_len : ∀ n v, (ofB n v).length = n
  | 0, _ => rfl
  | n + 1, v => by rw [ofB, List.length_cons, ofB_len]
theorem valB_ofB : ∀ n v, valB (ofB n v) = v % 2 ^ n
  | 0, v => by rw [ofB, valB, Nat.pow_zero, Nat.mod_one]
  | n + 1, v => by
    rw [ofB, valB, valB_ofB n (v / 2), Nat.pow_succ, Nat.mul_comm (2 ^ n) 2, Nat.mod_mul]
    have : (decide (v % 2 = 1)).toNat = v % 2 := by
      have := Nat.mod_two_eq_zero_or_one v
      rcases this with h | h <;> simp [h]
    rw [this]
theorem ofB_valB (l : List Bool) : ofB l.length (valB l) = l :=
  valB_inj (ofB_len _ _) (by rw [valB_ofB, Nat.mod_eq_of_lt (valB_lt l)])
theorem ofB_eq {n v : Nat} {l : List Bool} (hl : l.length = n) (h : valB l = v % 2 ^ n) : l = ofB n v :=
  valB_inj (by rw [ofB_len, hl]) (by rw [valB_ofB, h])
theorem ofB_mod (n v : Nat) : ofB n (v % 2 ^ n) = ofB n v := valB_inj (by rw [ofB_len, ofB_len]) (by rw [valB_ofB, valB_ofB, Nat.mod_mod])
theorem ofB_zero (n : Nat) : ofB n 0 = List.replicate n false := by
  induction n with
  | zero => rfl
  | succ n ih => rw [ofB, List.replicate_succ, Nat.zero_div, ih]; rfl

/-- The sum of words. -/
def sumV (bs : List (List Bool)) : Nat := (bs.map valB).foldr (· + ·) 0
theorem sumV_nil : sumV [] = 0 := rfl
theorem sumV_cons (b : List Bool) (bs : List (List Bool)) : sumV (b :: bs) = valB b + sumV bs := rfl
theorem sumV_app (cs bs : List (List Bool)) : sumV (cs ++ bs) = sumV cs + sumV bs := by
  induction cs with
  | nil => rw [List.nil_append, sumV_nil, Nat.zero_add]
  | cons a cs ih => rw [List.cons_append, sumV_cons, sumV_cons, ih, Nat.add_assoc]
theorem add_ofB (n u v : Nat) : addB (ofB n u) (ofB n v) false = ofB n (u + v) := by
  refine ofB_eq (by rw [addB_len _ _ _ (by rw [ofB_len, ofB_len]), ofB_len]) ?_
  rw [addB_val _ _ _ (by rw [ofB_len, ofB_len]), ofB_len, valB_ofB, valB_ofB, Bool.toNat_false, Nat.add_zero, ← Nat.add_mod]

/-! ### gates over a circuit -/
section
variable {w0 w : World} {bb n V K : Nat} {vin vval : Value} {σ : Nat → Bool} {F : Form} (h : Bas w0 bb n vin vval V K w σ F)
include h
theorem Bas.gate {r : Out} {b : Bool} (hg : GateOk n σ F r b) {e : Ending} {w' : World} (hp : GatePost bb w r e w') : BasL w0 bb n vin vval V K w σ F b 1 6 e w' := by
  obtain ⟨h0, σ', hx, hok, hb⟩ := hg
  obtain ⟨he, hB, hf⟩ := hp
  rw [h0] at he
  exact ⟨r.1, σ', r.2.2, he, h.step hf (h.st.c.step hf hB hx) hx, ⟨hok, hb⟩, hf, hx⟩
theorem Bas.and {x y : Int} {a b : Bool} (hx : LitIs σ F x a) (hy : LitIs σ F y b) (hV : V < 1048576) (hK : K + 6 ≤ 1048576) :
    Calls Tryd.prog 29 #[.pointer (some ⟨bb, 0, none⟩), .int .i64 x, .int .i64 y] w (BasL w0 bb n vin vval V K w σ F (a && b) 1 6) := by
  have := h.v; have := h.c
  have hg := and_good h.st.c.good hx.1 hy.1 (by omega) (by omega)
  rw [hx.2, hy.2] at hg
  exact (and_any bb F x y w h.st.c.b (lit_i64 h.st.c.b.vars hx.1) (lit_i64 h.st.c.b.vars hy.1)).mono fun _ _ hp => h.gate hg hp
end

/-- A literal that is there, with itself. -/
theorem and_self_any (bb : Nat) (F : Form) (x : Int) (w : World) (hB : IsB w bb F) (hx : okLit F.vars x = true) :
    Calls Tryd.prog 29 #[.pointer (some ⟨bb, 0, none⟩), .int .i64 x, .int .i64 x] w fun e w' => e = .returned (.tuple #[.int .i64 x, .int .i64 0]) ∧ IsB w' bb F ∧ FrB bb w w' := by
  have e : andM F x x = (x, 0, F) := by unfold andM; simp [hasAll, hx]
  have := and_any bb F x x w hB (lit_i64 hB.vars hx) (lit_i64 hB.vars hx)
  rw [e] at this
  exact this

theorem RowR.take {R : Nat → Prop} {w : World} {p : Option Addr} {cs : List Value} (h : RowR R w p cs) (k : Nat) : RowR R w p (cs.take k) := by
  rcases h with rfl | ⟨b, off, hp, hR, hc⟩
  · exact .inl (by simp)
  · exact .inr ⟨b, off, hp, hR, fun j hj => by
      have hj2 : j < cs.length := by rw [List.length_take] at hj; omega
      rw [hc j hj2, List.getElem_take]⟩
theorem RowR.drop {R : Nat → Prop} {w : World} {b off : Nat} {cs : List Value} (h : RowR R w (some ⟨b, off, none⟩) cs) (k : Nat) : RowR R w (some ⟨b, off + k, none⟩) (cs.drop k) := by
  rcases h with rfl | ⟨b', off', hp, hR, hc⟩
  · exact .inl (by simp)
  · injection hp with hp
    injection hp with h1 h2
    subst h1 h2
    exact .inr ⟨_, _, rfl, hR, fun j hj => by
      have hj2 : k + j < cs.length := by rw [List.length_drop] at hj; omega
      rw [Nat.add_assoc, hc (k + j) hj2, List.getElem_drop]⟩

theorem BasW.mono {w0 w w' : World} {bb n V K V' K' : Nat} {vin vval : Value} {σ : Nat → Bool} {F : Form} {bs : List Bool} {dv dc dv' dc' : Nat} {e : Ending} (h : BasW w0 bb n vin vval V K w σ F bs dv dc e w') (hv : dv ≤ dv') (hc : dc ≤ dc') : BasW w0 bb n vin vval V K w σ F bs dv' dc' e w' := by
  obtain ⟨v, zs, σ', F', he, hB, hi, hl, hf, hx⟩ := h
  exact ⟨v, zs, σ', F', he, hB.mono (by omega) (by omega), hi, hl, hf, ⟨hx.good, hx.old, hx.v0, by have := hx.v1; omega, hx.c0, by have := hx.c1; omega⟩⟩

theorem sum_dv (a m h g : Nat) (h1 : 1 ≤ h) (g1 : 1 ≤ g) : a * m * (h - 1) + a * m * (g - 1) + a * m = a * m * (h + g - 1) := by
  have : h + g - 1 = (h - 1) + (g - 1) + 1 := by omega
  rw [this, Nat.mul_add, Nat.mul_add, Nat.mul_one]

end Go.Proofs.YtjcnhnifageikaaDoor

namespace Go.Proofs.YtjcnhnifageikaaDoor
set_option linter.unusedSimpArgs false
set_option linter.unusedVariables false
open Go.RowKit Go.Shelf

/-! ### plain: the rows of a product -/
/-- Row i of a product. -/
def partB (m : Nat) (a : List Bool) (i : Nat) (b : Bool) : List Bool := (List.replicate i false ++ a.map (· && b)).take m
theorem partB_len {m : Nat} {a : List Bool} (ha : a.length = m) (i : Nat) (b : Bool) : (partB m a i b).length = m := by
  unfold partB; rw [List.length_take, List.length_append, List.length_replicate, List.length_map]; omega
theorem partB_get {m : Nat} {a : List Bool} (ha : a.length = m) (i : Nat) (b : Bool) (k : Nat) (hk : k < m) : (partB m a i b)[k]'(by rw [partB_len ha]; exact hk) = if h : k < i then false else (a[k - i]'(by omega) && b) := by
  unfold partB
  rw [List.getElem_take]
  split
  · rename_i h
    rw [List.getElem_append_left (by rw [List.length_replicate]; exact h), List.getElem_replicate]
  · rename_i h
    rw [List.getElem_append_right (by rw [List.length_replicate]; omega)]
    simp
theorem valB_app : ∀ (l r : List Bool), valB (l ++ r) = valB l + valB r * 2 ^ l.length
  | [], r => by simp [valB]
  | b :: l, r => by
    rw [List.cons_append, valB, valB_app l r, valB, List.length_cons, Nat.pow_succ, Nat.mul_add, ← Nat.add_assoc, Nat.mul_comm (2 ^ l.length) 2, ← Nat.mul_assoc 2, Nat.mul_comm 2 (valB r), Nat.mul_assoc]
theorem valB_false (n : Nat) : valB (List.replicate n false) = 0 := by
  induction n with
  | zero => rfl
  | succ n ih => rw [List.replicate_succ, valB, ih]; rfl
theorem valB_takeM (l : List Bool) (m : Nat) : valB (l.take m) = valB l % 2 ^ m := by
  by_cases h : m ≤ l.length
  · have e : l = l.take m ++ l.drop m := (List.take_append_drop m l).symm
    have hl : (l.take m).length = m := by rw [List.length_take]; omega
    conv => rhs; rw [e, valB_app, hl]
    rw [Nat.add_mul_mod_self_right]
    have := valB_lt (l.take m)
    rw [hl] at this
    exact (Nat.mod_eq_of_lt this).symm
  · rw [List.take_of_length_le (by omega)]
    have := valB_lt l
    have h2 : 2 ^ l.length ≤ 2 ^ m := Nat.pow_le_pow_right (by decide) (by omega)
    exact (Nat.mod_eq_of_lt (by omega)).symm
theorem valB_and (a : List Bool) (b : Bool) : valB (a.map (· && b)) = valB a * b.toNat := by
  induction a with
  | nil => simp [valB]
  | cons x a ih =>
    rw [List.map_cons, valB, ih, valB, Nat.add_mul, Nat.mul_assoc]
    cases x <;> cases b <;> rfl
theorem partB_val (m : Nat) (a : List Bool) (i : Nat) (b : Bool) : valB (partB m a i b) = (valB a * (b.toNat * 2 ^ i)) % 2 ^ m := by
  unfold partB
  rw [valB_takeM, valB_app, valB_false, Nat.zero_add, List.length_replicate, valB_and, Nat.mul_assoc]
/-- All rows of a product, from row i on. -/
def partsB (m : Nat) (a : List Bool) : Nat → List Bool → List (List Bool)
  | _, [] => []
  | i, b :: bs => partB m a i b :: partsB m a (i + 1) bs
theorem partsB_val (m : Nat) (a : List Bool) : ∀ (bs : List Bool) (i : Nat), sumV (partsB m a i bs) % 2 ^ m = (valB a * (valB bs * 2 ^ i)) % 2 ^ m
  | [], i => by simp [partsB, sumV, valB]
  | b :: bs, i => by
    rw [partsB, sumV_cons, Nat.add_mod, partsB_val m a bs (i + 1), partB_val, Nat.mod_mod, ← Nat.add_mod, ← Nat.mul_add, valB, Nat.add_mul, Nat.pow_succ, Nat.mul_comm (2 ^ i) 2, ← Nat.mul_assoc (valB bs) 2, Nat.mul_comm (valB bs) 2]
theorem partsB_snoc (m : Nat) (a : List Bool) (b : Bool) : ∀ (bs : List Bool) (i : Nat), partsB m a i (bs ++ [b]) = partsB m a i bs ++ [partB m a (i + bs.length) b]
  | [], i => by simp [partsB]
  | c :: bs, i => by rw [List.cons_append, partsB, partsB, partsB_snoc m a b bs (i + 1), List.length_cons]; simp [Nat.add_assoc, Nat.add_comm 1]
theorem partsB_mul (m : Nat) (a b : List Bool) : ofB m (sumV (partsB m a 0 b)) = ofB m (valB a * valB b) := by
  rw [← ofB_mod, partsB_val, Nat.pow_zero, Nat.mul_one, ofB_mod]

/-! ### memory -/
/-- A store into a block that came after w. -/
theorem FrB.store {bb m : Nat} {F : Form} {w wr : World} (h : FrB bb w wr) (hB : IsB wr bb F) (hm : Away bb wr m) (hw : w.heap.size ≤ m) (i : Nat) (u : Value) : FrB bb w (wr.setCell ⟨m, i, none⟩ u) := by
  obtain ⟨_, h2, h3⟩ := hB.far hm i u
  refine ⟨h2.os.trans h.os, h2.tape.trans h.tape, h2.output.trans h.output, Nat.le_trans h.size h2.size, fun k hk => ?_⟩
  have hk1 := h.keep k hk
  have hne : k ≠ m := fun e => by have := hk.size; omega
  exact ⟨h3 k hk1.1, (h2.keep k ⟨hk1.1, hne⟩).2.trans hk1.2⟩

/-- A circuit after such a store. -/
theorem Bas.store {w0 w wr : World} {bb n V K R : Nat} {vin vval : Value} {σ : Nat → Bool} {F : Form} (h : Bas w0 bb n vin vval V K wr σ F) (hm : Away bb wr R) (hf : FrB bb w wr) (ci : Ints (Away bb w) w vin (insM n)) (cv : Bools (Away bb w) w vval (valsM n σ))
    (h0 : w0.heap.size ≤ w.heap.size) (hw : w.heap.size ≤ R) (i : Nat) (u : Value) : Bas w0 bb n vin vval V K (wr.setCell ⟨R, i, none⟩ u) σ F := by
  obtain ⟨h1, h2, h3⟩ := h.st.c.b.far hm i u
  have hfw := hf.store h.st.c.b hm hw i u
  refine ⟨⟨⟨h1, h.st.c.good, ci.fr hfw, cv.fr hfw, h.st.c.n⟩, h.st.fr.setCell (show w0.heap.size ≤ (⟨R, i, none⟩ : Addr).block from Nat.le_trans h0 hw) u, fun j hj => h3 j (h.st.lo j hj)⟩, h.v, h.c⟩

/-- A row of a product under way. -/
structure MulI (w0 w wo : World) (bb n : Nat) (vin vval : Value) (V K dv dc : Nat) (σo : Nat → Bool) (Fo : Form) (B0 R m : Nat) (cs : List Value) (k : Nat) (zs : List Int) (bits : List Bool) (wr : World) (σ : Nat → Bool) (F : Form) : Prop where
  bas : Bas w0 bb n vin vval V K wr σ F
  ext : Ext n σo Fo σ F dv dc
  fr : Fr (fun q => Away bb wo q ∧ q ≠ B0) (fun q => Away bb wr q ∧ q ≠ B0) wo wr
  frw : FrB bb w wr
  b0 : Own bb wr B0 (.cells cs.toArray 23 (0, 0))
  r : Own bb wr R (.cells ((zs ++ List.replicate (m - k) 0).map (Value.int .i64)).toArray 3 (0, 0))
  ne : R ≠ B0
  zl : zs.length = k
  la : LitsAre σ F zs bits
  w1 : w.heap.size ≤ R
  w2 : wo.heap.size ≤ R
  w3 : w0.heap.size ≤ w.heap.size
  ci : Ints (Away bb w) w vin (insM n)
  cv : Bools (Away bb w) w vval (valsM n σ)

section
variable {w0 w wo wr w' : World} {bb n V K dv dc B0 R m k : Nat} {vin vval : Value} {σo σ σ' : Nat → Bool} {Fo F F' : Form} {cs : List Value} {zs : List Int} {bits : List Bool}
theorem MulI.gate {a b : Nat} (h : MulI w0 w wo bb n vin vval V K dv dc σo Fo B0 R m cs k zs bits wr σ F) (hb : Bas w0 bb n vin vval (V + a) (K + b) w' σ' F') (hf : FrB bb wr w') (hx : Ext n σ F σ' F' a b) :
    MulI w0 w wo bb n vin vval (V + a) (K + b) (dv + a) (dc + b) σo Fo B0 R m cs k zs bits w' σ' F' :=
  ⟨hb, h.ext.trans hx (Nat.le_refl _) (Nat.le_refl _), h.fr.trans (hf.weaken (fun q hq => hq.1) (fun q hq hq' => ⟨hq', hq.2⟩)), h.frw.trans hf, h.b0.fr hf, h.r.fr hf, h.ne, h.zl, h.la.ext hx, h.w1, h.w2, h.w3, h.ci, by rw [valsM_ext fun v hv => hx.old v (by have := h.bas.st.c.good.inp; omega)]; exact h.cv⟩
theorem MulI.mono {V' K' dv' dc' : Nat} (h : MulI w0 w wo bb n vin vval V K dv dc σo Fo B0 R m cs k zs bits wr σ F) (h1 : V ≤ V') (h2 : K ≤ K') (h3 : dv ≤ dv') (h4 : dc ≤ dc') : MulI w0 w wo bb n vin vval V' K' dv' dc' σo Fo B0 R m cs k zs bits wr σ F :=
  ⟨h.bas.mono h1 h2, ⟨h.ext.good, h.ext.old, h.ext.v0, by have := h.ext.v1; omega, h.ext.c0, by have := h.ext.c1; omega⟩, h.fr, h.frw, h.b0, h.r, h.ne, h.zl, h.la, h.w1, h.w2, h.w3, h.ci, h.cv⟩
theorem MulI.drew (h : MulI w0 w wo bb n vin vval V K dv dc σo Fo B0 R m cs k zs bits wr σ F) : MulI w0 w wo bb n vin vval V K dv dc σo Fo B0 R m cs k zs bits wr.drew σ F := by
  have hb : Below wr.heap.size wr wr.drew := ⟨rfl, rfl, rfl, Nat.le_refl _, fun _ _ => rfl⟩
  have := h.gate (a := 0) (b := 0) (h.bas.fr hb) (FrB.of_below h.bas.st.c.b hb) (Ext.refl h.bas.st.c.good 0 0)
  exact this
/-- The next literal is stored. -/
theorem MulI.store (h : MulI w0 w wo bb n vin vval V K dv dc σo Fo B0 R m cs k zs bits wr σ F) (hk : k < m) {z : Int} {b : Bool} (hz : LitIs σ F z b) :
    MulI w0 w wo bb n vin vval V K dv dc σo Fo B0 R m cs (k + 1) (zs ++ [z]) (bits ++ [b]) (wr.setCell ⟨R, k, none⟩ (.int .i64 z)) σ F := by
  obtain ⟨h1, h2, h3⟩ := h.bas.st.c.b.far h.r.1 k (.int .i64 z)
  have hrn : ∀ q, q ≠ R → (wr.setCell ⟨R, k, none⟩ (.int .i64 z)).heap[q]? = wr.heap[q]? := fun q hq => Below.heap_setCell _ _ _ _ hq
  have hfw : FrB bb w (wr.setCell ⟨R, k, none⟩ (.int .i64 z)) := h.frw.store h.bas.st.c.b h.r.1 h.w1 k _
  refine ⟨h.bas.store h.r.1 h.frw h.ci h.cv h.w3 h.w1 k _, h.ext, ?_, hfw, ⟨h3 _ h.b0.1, (hrn B0 (Ne.symm h.ne)).trans h.b0.2⟩, ⟨h3 _ h.r.1, ?_⟩, h.ne, by rw [List.length_append, h.zl]; rfl, ⟨?_, ?_⟩, h.w1, h.w2, h.w3, h.ci, h.cv⟩
  · refine ⟨h2.os.trans h.fr.os, h2.tape.trans h.fr.tape, h2.output.trans h.fr.output, Nat.le_trans h.fr.size h2.size, fun q hq => ?_⟩
    have hq1 := h.fr.keep q hq
    have hne : q ≠ R := fun e => by have := hq.1.size; have := h.w2; omega
    exact ⟨⟨h3 q hq1.1.1, hq1.1.2⟩, (hrn q hne).trans hq1.2⟩
  · rw [heap_set_same h.r.2]
    congr 2
    rw [List.setIfInBounds_toArray]
    congr 1
    have e : List.replicate (m - k) (0 : Int) = 0 :: List.replicate (m - (k + 1)) 0 := by
      rw [← List.replicate_succ]; congr 1; omega
    rw [e, List.map_append, List.map_cons, List.set_append_right _ _ (by rw [List.length_map, h.zl]; exact Nat.le_refl _), List.length_map, h.zl, Nat.sub_self, List.set_cons_zero]
    simp
  · intro x hx
    rcases List.mem_append.1 hx with hx | hx
    · exact h.la.1 x hx
    · simp at hx; rw [hx]; exact hz.1
  · rw [List.map_append, h.la.2]; simp [hz.2]
end

end Go.Proofs.YtjcnhnifageikaaDoor

namespace Go.Proofs.YtjcnhnifageikaaDoor
set_option linter.unusedSimpArgs false
set_option linter.unusedVariables false
open Go.RowKit Go.Shelf
attribute [local go_sem] Oper.semAt_some

/-- The rows of a product so far. -/
structure MulO (w0 w : World) (bb n : Nat) (vin vval : Value) (V K : Nat) (σ : Nat → Bool) (F : Form) (B0 m j : Nat) (ws : List (Value × List Int × List Bool)) (a b : List Bool) (wr : World) (σj : Nat → Bool) (Fj : Form) : Prop where
  bas : Bas w0 bb n vin vval (V + m * j) (K + 6 * (m * j)) wr σj Fj
  ext : Ext n σ F σj Fj (m * j) (6 * (m * j))
  frw : FrB bb w wr
  b0 : Own bb wr B0 (.cells (ws.map (fun x => x.1) ++ List.replicate (m - j) (Value.slice none 0 0)).toArray 23 (0, 0))
  wl : ws.length = j
  rows : ∀ x ∈ ws, Ints (fun q => Away bb wr q ∧ q ≠ B0) wr x.1 x.2.1 ∧ LitsAre σj Fj x.2.1 x.2.2
  bits : ws.map (·.2.2) = partsB m a 0 (b.take j)
  lens : ∀ x ∈ ws, x.2.2.length = m
  w1 : w.heap.size ≤ B0
  w3 : w0.heap.size ≤ w.heap.size
  ci : Ints (Away bb w) w vin (insM n)
  cv : Bools (Away bb w) w vval (valsM n σj)

section
variable {w0 w wr : World} {bb n V K B0 m j : Nat} {vin vval : Value} {σ σj σ' : Nat → Bool} {F Fj F' : Form} {ws : List (Value × List Int × List Bool)} {a b : List Bool}
/-- The next row is laid. -/
theorem MulO.start (h : MulO w0 w bb n vin vval V K σ F B0 m j ws a b wr σj Fj) (hj : j < m) (W' : World) (hW : (wr.setCell ⟨B0, j, none⟩ (.slice (some ⟨wr.heap.size, 0, none⟩) m m)).alloc (.cells (Array.replicate m (.int .i64 0)) 3) = W') :
    MulI w0 w wr bb n vin vval (V + m * j) (K + 6 * (m * j)) 0 0 σj Fj B0 wr.heap.size m (ws.map (·.1) ++ .slice (some ⟨wr.heap.size, 0, none⟩) m m :: List.replicate (m - (j + 1)) (.slice none 0 0)) 0 [] [] W' σj Fj := by
  have hb1 : Below wr.heap.size wr (wr.alloc (.cells (Array.replicate m (.int .i64 0)) 3)) := (Below.refl _ _).alloc (Nat.le_refl _) _
  have hB1 := h.bas.fr hb1
  have hf1 := FrB.of_below h.bas.st.c.b hb1
  have hbR := h.bas.st.c.b.away_new hb1 (k := wr.heap.size) (Nat.le_refl _) (by simp)
  have h01 := h.b0.fr hf1
  have hRe : (wr.alloc (.cells (Array.replicate m (.int .i64 0)) 3)).heap[wr.heap.size]? = some (.cells (Array.replicate m (.int .i64 0)) 3 (0, 0)) := by rw [heap_al, if_pos rfl]
  have hlt := h.b0.lt
  obtain ⟨g1, g2, g3⟩ := hB1.st.c.b.far h01.1 j (.slice (some ⟨wr.heap.size, 0, none⟩) m m)
  have hrn : ∀ q, q ≠ B0 → ((wr.alloc (.cells (Array.replicate m (.int .i64 0)) 3)).setCell ⟨B0, j, none⟩ (.slice (some ⟨wr.heap.size, 0, none⟩) m m)).heap[q]? = (wr.alloc (.cells (Array.replicate m (.int .i64 0)) 3)).heap[q]? := fun q hq => Below.heap_setCell _ _ _ _ hq
  have hne : wr.heap.size ≠ B0 := by omega
  have hfw := FrB.store (h.frw.trans hf1) hB1.st.c.b h01.1 h.w1 j (.slice (some ⟨wr.heap.size, 0, none⟩) m m)
  rw [← World.setCell_alloc_past _ _ _ _ hlt] at hW
  subst hW
  refine ⟨hB1.store h01.1 (h.frw.trans hf1) h.ci h.cv h.w3 h.w1 j _, Ext.refl h.bas.st.c.good 0 0, ?_, hfw, ⟨g3 _ h01.1, ?_⟩, ⟨g3 _ hbR, ?_⟩, hne, rfl, ⟨(fun x hx => by cases hx), rfl⟩, by have := h.frw.size; omega, Nat.le_refl _, h.w3, h.ci, h.cv⟩
  · refine ⟨g2.os.trans hf1.os, g2.tape.trans hf1.tape, g2.output.trans hf1.output, Nat.le_trans hf1.size g2.size, fun q hq => ?_⟩
    have hq1 := hf1.keep q hq.1
    exact ⟨⟨g3 q hq1.1, hq.2⟩, (hrn q hq.2).trans hq1.2⟩
  · rw [heap_set_same h01.2]
    congr 2
    rw [List.setIfInBounds_toArray]
    congr 1
    have e : List.replicate (m - j) (Value.slice none 0 0) = .slice none 0 0 :: List.replicate (m - (j + 1)) (.slice none 0 0) := by
      rw [← List.replicate_succ]; congr 1; omega
    rw [e, List.set_append_right _ _ (by rw [List.length_map, h.wl]; exact Nat.le_refl _), List.length_map, h.wl, Nat.sub_self, List.set_cons_zero]
  · rw [hrn _ hne, hRe]
    simp

/-- A row is done. -/
theorem MulO.next {W' : World} {wR : Nat} {zs : List Int} (h : MulO w0 w bb n vin vval V K σ F B0 m j ws a b wr σj Fj) (hj : j < m) (hm : m ≤ 64) (hb : b.length = m) (ha : a.length = m)
    (hi : MulI w0 w wr bb n vin vval (V + m * j + m) (K + 6 * (m * j) + 6 * m) m (6 * m) σj Fj B0 wr.heap.size m (ws.map (·.1) ++ .slice (some ⟨wr.heap.size, 0, none⟩) m m :: List.replicate (m - (j + 1)) (.slice none 0 0)) m zs (partB m a j (b[j]'(by omega))) W' σ' F') :
    MulO w0 w bb n vin vval V K σ F B0 m (j + 1) (ws ++ [(.slice (some ⟨wr.heap.size, 0, none⟩) m m, zs, partB m a j (b[j]'(by omega)))]) a b W' σ' F' := by
  have em : m * (j + 1) = m * j + m := Nat.mul_succ m j
  have hrow : Ints (fun q => Away bb W' q ∧ q ≠ B0) W' (.slice (some ⟨wr.heap.size, 0, none⟩) m m) zs := by
    have hr := hi.r.2
    rw [Nat.sub_self, List.replicate_zero, List.append_nil] at hr
    exact Ints.whole hi.zl.symm hr ⟨hi.r.1, hi.ne⟩ (by rw [hi.zl]; omega)
  refine ⟨by rw [em]; exact hi.bas.mono (by omega) (by omega), ?_, hi.frw, ?_, by rw [List.length_append, h.wl]; rfl, fun x hx => ?_, ?_, fun x hx => ?_, h.w1, h.w3, hi.ci, hi.cv⟩
  · have := h.ext.trans hi.ext (Nat.le_refl _) (Nat.le_refl _)
    rw [em]
    exact ⟨this.good, this.old, this.v0, by have := this.v1; omega, this.c0, by have := this.c1; omega⟩
  · rw [List.map_append, List.append_assoc]; exact hi.b0
  · rcases List.mem_append.1 hx with hx | hx
    · obtain ⟨r1, r2⟩ := h.rows x hx
      exact ⟨r1.fr hi.fr, r2.ext hi.ext⟩
    · simp only [List.mem_cons, List.not_mem_nil, or_false] at hx
      subst hx
      exact ⟨hrow, hi.la⟩
  · rw [List.map_append, h.bits, List.take_succ_eq_append_getElem (by omega), partsB_snoc, List.length_take, Nat.min_eq_left (by omega), Nat.zero_add]; rfl
  · rcases List.mem_append.1 hx with hx | hx
    · exact h.lens x hx
    · simp only [List.mem_cons, List.not_mem_nil, or_false] at hx
      subst hx
      exact partB_len ha _ _
end

end Go.Proofs.YtjcnhnifageikaaDoor
