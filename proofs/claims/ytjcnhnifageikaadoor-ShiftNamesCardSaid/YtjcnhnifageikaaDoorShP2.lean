/-
  Shifts of lists (plain).
  The law side of shift: the table of operators.
-/
import Derived.Test.YtjcnhnifageikaaDoorMd3
namespace Go.Proofs.YtjcnhnifageikaaDoor
set_option linter.unusedSimpArgs false
set_option linter.unusedVariables false

section
variable {α β : Type}
/-- A list moved by k places, f filled in. -/
def shL (up : Bool) (k : Nat) (f : α) (a : List α) : List α :=
  (List.range a.length).map fun i => if up then (if k ≤ i then a.getD (i - k) f else f) else a.getD (i + k) f
theorem shL_len (up : Bool) (k : Nat) (f : α) (a : List α) : (shL up k f a).length = a.length := by simp [shL]
theorem shL_get (up : Bool) (k : Nat) (f : α) (a : List α) (i : Nat) (h : i < (shL up k f a).length) : (shL up k f a)[i] = if up then (if k ≤ i then a.getD (i - k) f else f) else a.getD (i + k) f := by simp [shL]
theorem shL_getD (up : Bool) (k : Nat) (f : α) (a : List α) (i : Nat) : (shL up k f a).getD i f = if i < a.length then (if up then (if k ≤ i then a.getD (i - k) f else f) else a.getD (i + k) f) else f := by
  by_cases h : i < a.length
  · rw [if_pos h, List.getD_eq_getElem?_getD, List.getElem?_eq_getElem (by rw [shL_len]; exact h), Option.getD_some, shL_get]
  · rw [if_neg h, List.getD_eq_getElem?_getD, List.getElem?_eq_none (by rw [shL_len]; omega), Option.getD_none]
theorem getD_out (f : α) (a : List α) (i : Nat) (h : a.length ≤ i) : a.getD i f = f := by
  rw [List.getD_eq_getElem?_getD, List.getElem?_eq_none h, Option.getD_none]
theorem shL_map (g : α → β) (up : Bool) (k : Nat) (f : α) (a : List α) : (shL up k f a).map g = shL up k (g f) (a.map g) := by
  have hd : ∀ i, (a.map g).getD i (g f) = g (a.getD i f) := fun i => by
    rw [List.getD_eq_getElem?_getD, List.getD_eq_getElem?_getD, List.getElem?_map]; cases a[i]? <;> rfl
  unfold shL
  rw [List.map_map, List.length_map]
  refine List.map_congr_left fun i _ => ?_
  simp only [Function.comp]
  rw [hd, hd]
  cases up
  · rfl
  · simp only [if_true]; split <;> rfl
theorem shL_zero (up : Bool) (f : α) (a : List α) : shL up 0 f a = a := by
  refine List.ext_getElem (shL_len _ _ _ _) fun i h1 h2 => ?_
  rw [shL_get, Nat.sub_zero, Nat.add_zero, if_pos (Nat.zero_le _), List.getD_eq_getElem?_getD, List.getElem?_eq_getElem h2]
  cases up <;> rfl
theorem shL_shL (up : Bool) (k l : Nat) (f : α) (a : List α) : shL up k f (shL up l f a) = shL up (l + k) f a := by
  refine List.ext_getElem (by rw [shL_len, shL_len, shL_len]) fun i h1 h2 => ?_
  have hi : i < a.length := by rw [shL_len] at h2; exact h2
  rw [shL_get, shL_get, shL_getD, shL_getD]
  cases up
  · simp only [Bool.false_eq_true, if_false]
    by_cases h : i + k < a.length
    · rw [if_pos h]; congr 1; omega
    · rw [if_neg h, getD_out _ _ _ (by omega)]
  · simp only [if_true]
    by_cases h : k ≤ i
    · rw [if_pos h, if_pos (show i - k < a.length by omega)]
      by_cases h' : l ≤ i - k
      · rw [if_pos h', if_pos (by omega)]; congr 1; omega
      · rw [if_neg h', if_neg (by omega)]
    · rw [if_neg h, if_neg (by omega)]
theorem shL_big (up : Bool) (k l : Nat) (f : α) (a : List α) (h : a.length ≤ k) (h' : a.length ≤ l) : shL up k f a = shL up l f a := by
  refine List.ext_getElem (by rw [shL_len, shL_len]) fun i h1 h2 => ?_
  have hi : i < a.length := by rw [shL_len] at h2; exact h2
  rw [shL_get, shL_get, getD_out _ _ _ (show a.length ≤ i + k by omega), getD_out _ _ _ (show a.length ≤ i + l by omega)]
  have e1 : ¬ k ≤ i := by omega
  have e2 : ¬ l ≤ i := by omega
  simp only [e1, e2, if_false]
theorem shL_min (up : Bool) (k : Nat) (f : α) (a : List α) : shL up (min a.length k) f a = shL up k f a := by
  by_cases h : k ≤ a.length
  · rw [Nat.min_eq_right h]
  · rw [Nat.min_eq_left (by omega)]; exact shL_big _ _ _ _ _ (Nat.le_refl _) (by omega)
theorem shL_add (up : Bool) (v p : Nat) (f : α) (a : List α) : shL up (min a.length p) f (shL up v f a) = shL up (v + p) f a := by
  have : (shL up v f a).length = a.length := shL_len _ _ _ _
  rw [show min a.length p = min (shL up v f a).length p by rw [this], shL_min, shL_shL]
end

/-- A step of a shift. -/
theorem shB_step (c : Bool) (up : Bool) (v p : Nat) (f : Bool) (a : List Bool) : chooseB c (shL up (min a.length p) f (shL up v f a)) (shL up v f a) = shL up (v + c.toNat * p) f a := by
  rw [shL_add]
  cases c <;> simp [chooseB]

theorem valB_take_succ (b : List Bool) (j : Nat) (h : j < b.length) : valB (b.take (j + 1)) = valB (b.take j) + b[j].toNat * 2 ^ j := by
  induction b generalizing j with
  | nil => exact absurd h (by simp)
  | cons x b ih =>
    cases j with
    | zero => simp [valB]
    | succ j =>
      have h' : j < b.length := by simpa using h
      rw [List.take_succ_cons, List.take_succ_cons, valB, valB, ih j h', List.getElem_cons_succ, Nat.pow_succ]
      have : b[j].toNat * (2 ^ j * 2) = 2 * (b[j].toNat * 2 ^ j) := by rw [Nat.mul_comm (2 ^ j) 2, Nat.mul_left_comm]
      omega
/-- The literal that a shift fills in. -/
def fillB (op : Int) (a : List Bool) : Bool := decide (op = 14) && a.getD (a.length - 1) false
/-- What Shift answers. -/
def shB (op : Int) (a b : List Bool) : List Bool := shL (decide (op = 12)) (valB b) (fillB op a) a
theorem shB_len (op : Int) (a b : List Bool) : (shB op a b).length = a.length := shL_len _ _ _ _

end Go.Proofs.YtjcnhnifageikaaDoor

namespace Go.Proofs.YtjcnhnifageikaaDoor
set_option linter.unusedSimpArgs false
set_option linter.unusedVariables false
open Go.RowKit Go.Shelf
attribute [local go_sem] Oper.semAt_some

/-- A block of numbers is laid. -/
theorem Bas.lay {w0 w : World} {bb n V K : Nat} {vin vval : Value} {σ : Nat → Bool} {F : Form} (h : Bas w0 bb n vin vval V K w σ F) (zs : List Int) (m : Nat) (hm : zs.length = m) (hl : m ≤ 1024) (W' : World) (hW : w.alloc (.cells (zs.map (Value.int .i64)).toArray 3) = W') :
    Bas w0 bb n vin vval V K W' σ F ∧ Below w.heap.size w W' ∧ FrB bb w W' ∧ Ints (Away bb W') W' (.slice (some ⟨w.heap.size, 0, none⟩) m m) zs ∧ W'.heap.size = w.heap.size + 1 := by
  subst hW
  have hb : Below w.heap.size w (w.alloc (.cells (zs.map (Value.int .i64)).toArray 3)) := (Below.refl _ _).alloc (Nat.le_refl _) _
  exact ⟨h.fr hb, hb, FrB.of_below h.st.c.b hb, Ints.whole hm.symm (by rw [heap_al, if_pos rfl]) (h.st.c.b.away_new hb (Nat.le_refl _) (by simp)) (by omega), by simp only [World.size_alloc]⟩
/-- The bits of two words of three inputs. -/
theorem small_bits : ∀ x y : Fin 8, valB ([2, 3, 4].map (litT (sigB (smallV (x.val : Int) (y.val : Int))))) = x.val ∧ valB ([5, 6, 7].map (litT (sigB (smallV (x.val : Int) (y.val : Int))))) = y.val := by decide
/-- Shows, of a word that is there. -/
theorem Kit.shows {w0 w w1 : World} {bb n V K : Nat} {vin vval : Value} {σ : Nat → Bool} {F : Form} {ws : List (Value × List Int × List Bool)} {ls : List (Int × Bool)} (hK : Kit bb w σ F ws ls) (h : Bas w0 bb n vin vval V K w σ F) {v : Value} {zs : List Int} {bs : List Bool} (hm : (v, zs, bs) ∈ ws) (h64 : bs.length ≤ 64) {want : Nat} (hw : valB bs = want) (hb : Below w.heap.size w w1) :
    Calls Tryd.prog 41 #[.agg #[.pointer (some ⟨bb, 0, none⟩), vin, vval], .int .u64 (want : Nat), .int .i64 0, v] w1 fun e w' => e = .returned (.bool true) ∧ Below w.heap.size w w' := by
  obtain ⟨h1, h2⟩ := hK.w _ hm
  have hf := FrB.of_below h.st.c.b hb
  have hc := shows_any bb n σ F vin vval v zs want 0 (Away bb w1) w1 (h.st.c.below hb) (h1.fr hf) h2.1 (fun k hk => hk.size) (Nat.le_trans (Nat.le_of_eq h2.len) h64)
  have e2 : zs.map (litT σ) = bs := h2.2
  rw [e2, hw] at hc
  simp only [decide_true, Bool.and_self] at hc
  exact hc.mono fun e w' ⟨he, hb'⟩ => ⟨he, below_tr' hb hb' (Nat.le_refl _)⟩
set_option maxHeartbeats 800000 in
theorem refvalue_any (vx : Value) (xs : List Bool) (R : Nat → Prop) (w : World) (hx : Bools R w vx xs) (h64 : xs.length ≤ 64) :
    Calls Tryd.prog 32 #[vx] w fun e w' => e = .returned (.int .u64 (valB xs : Nat)) ∧ w = w' := by
  obtain ⟨px, cx, rfl, _, _, _, hrx⟩ := hx.op
  clear hx
  go_enter Tryd.func32, Tryd.ntmps32
  go_wp2_with fail
  go_loop [3, 4] (fun v i => ∃ (j : Nat), j ≤ xs.length ∧ i = .int .i64 j ∧ v = .int .u64 (valB (xs.take j) : Nat)) (fun _ i => xs.length - (intOf i).toNat)
  case atStart => exact ⟨0, Nat.zero_le _, rfl, rfl⟩
  case round =>
    obtain ⟨j, hj, rfl, rfl⟩ := hrel
    by_cases hlt : j < xs.length
    · obtain ⟨b, off, rfl, _, hc⟩ := hrx.atB j hlt
      have hcell := hc j hlt
      have hvt := valB_take xs j hlt
      have hvl := valB_lt (xs.take (j + 1))
      have hle : 2 ^ (xs.take (j + 1)).length ≤ 2 ^ 64 := Nat.pow_le_pow_right (by decide) (by simp; omega)
      have hvb : valB (xs.take (j + 1)) < 18446744073709551616 := by
        have : (2 : Nat) ^ 64 = 18446744073709551616 := by decide
        omega
      have HVT := hid hvt; have HVB := hid hvb
      clear hvt hc hvl hle hvb
      generalize xs[j] = bx at *
      generalize valB (xs.take j) = v0 at *
      have hj64 : (j : Int) < 64 := by omega
      have hv0 : v0 < 18446744073709551616 := by have := HVB.out; have := HVT.out; omega
      cases bx
      · go_wp2
        go_round
        case rel => exact ⟨j + 1, by omega, by go_num, by rw [HVT.out]; simp⟩
        case measure => simp [intOf]; omega
      · go_wp2
        go_round
        case rel => exact ⟨j + 1, by omega, by go_num, by rw [HVT.out]; exact congrArg (Value.int .u64) (shl_add v0 j (by have := HVB.out; have := HVT.out; simp at this; omega))⟩
        case measure => simp [intOf]; omega
    · obtain rfl : j = xs.length := by omega
      rw [List.take_of_length_le (Nat.le_refl _)]
      go_wp2
      go_ret
      exact ⟨rfl, rfl⟩
theorem ofB_get : ∀ (n v k : Nat) (h : k < n), (ofB n v)[k]'(by rw [ofB_len]; exact h) = decide (v / 2 ^ k % 2 = 1)
  | n + 1, v, 0, h => by simp [ofB]
  | n + 1, v, k + 1, h => by
    simp only [ofB, List.getElem_cons_succ]
    rw [ofB_get n (v / 2) k (by omega), Nat.div_div_eq_div_mul, Nat.pow_succ, Nat.mul_comm 2]
theorem ofB_take (n v k : Nat) (h : k < n) : (ofB n v).take (k + 1) = (ofB n v).take k ++ [decide (v / 2 ^ k % 2 = 1)] := by
  rw [List.take_succ_eq_append_getElem (by rw [ofB_len]; exact h), ofB_get n v k h]
theorem bit_and (x : Nat) (hx : x < 18446744073709551616) : (bits BinOp.and IntKind.u64 (x : Int) 1 == 1) = decide (x % 2 = 1) := by
  have h := and_mask (x : Int) 1 (by omega)
  rw [IntWalk.u64_in _ (by omega)] at h
  have e : (((2 ^ 1 - 1 : Nat) : Int)) = 1 := rfl
  rw [e] at h
  rw [h]
  have e2 : ((x : Int) % ((2 ^ 1 : Nat) : Int)) = ((x % 2 : Nat) : Int) := by simp
  rw [e2, Bool.eq_iff_iff, beq_iff_eq, decide_eq_true_iff]
  omega
theorem bit_of (v k : Nat) (hv : v < 18446744073709551616) : (bits BinOp.and IntKind.u64 ((v : Int) / 2 ^ k) 1 == 1) = decide (v / 2 ^ k % 2 = 1) := by
  have e : (v : Int) / 2 ^ k = ((v / 2 ^ k : Nat) : Int) := by simp
  rw [e]
  exact bit_and _ (Nat.lt_of_le_of_lt (Nat.div_le_self _ _) hv)
theorem own_slice_le {base e n : Nat} {w : World} {v : Value} {xs : List Value} (h : w.ownsRow base e 1 v n xs) : ∃ p c, v = .slice p n c ∧ n ≤ c := by
  rcases h.2 with ⟨rfl, h0⟩ | ⟨g, cap, cur, rfl, _, _, h1, _⟩
  · exact ⟨none, 0, by rw [h0], by omega⟩
  · exact ⟨_, cap, rfl, h1⟩
theorem bnew {w w' : World} {v : Value} {n : Nat} {xs : List Bool} {B : Nat} (h : w'.ownsRow B 4 1 v n (xs.map Value.bool)) (hn : n ≤ 140737488355328) (hB : w.heap.size ≤ B) : Bools (New w w') w' v xs :=
  Sl.of_owns h hn (fun j hj => ⟨Nat.le_trans hB (h.lt j hj).1, (h.lt j hj).2⟩)
end Go.Proofs.YtjcnhnifageikaaDoor

namespace Go.Proofs.YtjcnhnifageikaaDoor
set_option linter.unusedSimpArgs false
set_option linter.unusedVariables false
open Go.RowKit Go.Shelf
attribute [local go_sem] Oper.semAt_some

/-- The operator at a place of the law's table. -/
def opAt (i : Nat) : Int := 12 + (i : Int)
/-- The law's table stands. -/
structure Ops (w : World) : Prop where
  at' : ∀ i : Nat, i < 3 → w.cell? ⟨0, i, none⟩ = some (.int .u8 (opAt i))
  lt : 0 < w.heap.size
theorem Ops.below {w w' : World} {k : Nat} (h : Ops w) (hb : Below k w w') (hk : 0 < k) : Ops w' :=
  ⟨fun i hi => (hb.cell (p := ⟨0, i, none⟩) hk).trans (h.at' i hi), Nat.lt_of_lt_of_le h.lt hb.size⟩
theorem Ops.drew {w : World} (h : Ops w) : Ops w.drew := ⟨h.at', h.lt⟩

end Go.Proofs.YtjcnhnifageikaaDoor
