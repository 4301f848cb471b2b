/-
  Words of bits as numbers: sums, comparisons. No program in sight.
-/
import Derived.Test.YtjcnhnifageikaaDoorSem
namespace Go.Proofs.YtjcnhnifageikaaDoor
set_option linter.unusedSimpArgs false
set_option linter.unusedVariables false

/-! ### words of bits as numbers -/
def valB : List Bool → Nat
  | [] => 0
  | b :: l => b.toNat + 2 * valB l
theorem valB_lt : ∀ l : List Bool, valB l < 2 ^ l.length
  | [] => by simp [valB]
  | b :: l => by
    have := valB_lt l
    rw [valB, List.length_cons, Nat.pow_succ]
    cases b <;> simp <;> omega
theorem valB_inj : ∀ {a b : List Bool}, a.length = b.length → valB a = valB b → a = b
  | [], [], _, _ => rfl
  | x :: a, y :: b, h, e => by
    rw [valB, valB] at e
    have h1 : x = y := by cases x <;> cases y <;> simp at e <;> first | rfl | omega
    subst h1
    have := valB_inj (a := a) (b := b) (by simpa using h) (by omega)
    rw [this]
  | [], _ :: _, h, _ => by simp at h
  | _ :: _, [], h, _ => by simp at h
theorem valB_snoc : ∀ (l : List Bool) (b : Bool), valB (l ++ [b]) = valB l + b.toNat * 2 ^ l.length
  | [], b => by simp [valB]
  | x :: l, b => by
    rw [List.cons_append, valB, valB, valB_snoc l b, List.length_cons, Nat.pow_succ]
    have : b.toNat * (2 ^ l.length * 2) = 2 * (b.toNat * 2 ^ l.length) := by rw [← Nat.mul_assoc, Nat.mul_comm]
    omega
theorem addB_val : ∀ (xs ys : List Bool) (c : Bool), xs.length = ys.length → valB (addB xs ys c) = (valB xs + valB ys + c.toNat) % 2 ^ xs.length
  | [], [], c, _ => by simp [addB, valB]; omega
  | x :: xs, y :: ys, c, h => by
    have ih := fun c => addB_val xs ys c (by simpa using h)
    rw [addB, valB, ih, List.length_cons, Nat.pow_succ]
    have key : ∀ (k m : Nat), 0 < m → 2 * (k % m) = (2 * k) % (m * 2) := fun k m _ => by rw [Nat.mul_comm m 2, Nat.mul_mod_mul_left]
    have hm : 0 < 2 ^ xs.length := Nat.pow_pos (by decide)
    rw [key _ _ hm, valB, valB]
    generalize 2 ^ xs.length = m at *
    have hb : ∀ (b : Nat) (k : Nat), b < 2 → (b + 2 * k) % (m * 2) = b + (2 * k) % (m * 2) := fun b k hb => by
      rw [Nat.mul_comm m 2, Nat.mul_mod_mul_left]
      have e1 := Nat.div_add_mod k m
      have e2 := Nat.mod_lt k hm
      have e3 : b + 2 * k = (b + 2 * (k % m)) + 2 * m * (k / m) := by rw [Nat.mul_assoc]; omega
      rw [e3, Nat.add_mul_mod_self_left, Nat.mod_eq_of_lt (by omega)]
    have hb1 := fun k => hb 1 k (by omega)
    cases x <;> cases y <;> cases c <;> simp <;> first
      | (rw [← hb1]; congr 1; omega)
      | (congr 1; omega)
      | (rw [show (2 : Nat) * valB xs + 2 * valB ys = 2 * (valB xs + valB ys) by omega])
  | [], _ :: _, _, h => by simp at h
  | _ :: _, [], _, h => by simp at h
theorem notB_val : ∀ l : List Bool, valB (l.map (!·)) + valB l + 1 = 2 ^ l.length
  | [] => by simp [valB]
  | b :: l => by
    have := notB_val l
    rw [List.map_cons, valB, valB, List.length_cons, Nat.pow_succ]
    cases b <;> simp <;> omega
theorem lessB_val : ∀ (xs ys : List Bool) (acc : Bool), xs.length = ys.length → lessB xs ys acc = (decide (valB xs < valB ys) || (decide (valB xs = valB ys) && acc))
  | [], [], acc, _ => by simp [lessB, valB]
  | x :: xs, y :: ys, acc, h => by
    have ih := fun c => lessB_val xs ys c (by simpa using h)
    rw [lessB, ih, valB, valB]
    rw [Bool.eq_iff_iff]
    cases x <;> cases y <;> cases acc <;> simp <;> omega
  | [], _ :: _, _, h => by simp at h
  | _ :: _, [], _, h => by simp at h
theorem diffB_val : ∀ (xs ys : List Bool) (acc : Bool), xs.length = ys.length → diffB xs ys acc = (acc || !decide (xs = ys))
  | [], [], acc, _ => by simp [diffB]
  | x :: xs, y :: ys, acc, h => by
    have ih := fun c => diffB_val xs ys c (by simpa using h)
    rw [diffB, ih]
    cases x <;> cases y <;> cases acc <;> simp
  | [], _ :: _, _, h => by simp at h
  | _ :: _, [], _, h => by simp at h

theorem lessB_snoc (x y : Bool) : ∀ (xs ys : List Bool) (acc : Bool), xs.length = ys.length → lessB (xs ++ [x]) (ys ++ [y]) acc = if x != y then y else lessB xs ys acc
  | [], [], acc, _ => by simp [lessB]
  | a :: xs, b :: ys, acc, h => by
    rw [List.cons_append, List.cons_append, lessB, lessB_snoc x y xs ys _ (by simpa using h), lessB]
  | [], _ :: _, _, h => by simp at h
  | _ :: _, [], _, h => by simp at h
def turnB (l : List Bool) : List Bool := l.set (l.length - 1) (!(l.getD (l.length - 1) false))
theorem turnB_snoc (l : List Bool) (b : Bool) : turnB (l ++ [b]) = l ++ [!b] := by
  unfold turnB
  simp [List.set_append]
theorem turnB_len (l : List Bool) : (turnB l).length = l.length := by unfold turnB; simp
def lessS (xs ys : List Bool) (sg : Bool) : Bool := if sg then lessB (turnB xs) (turnB ys) false else lessB xs ys false
theorem lessS_snoc (xs ys : List Bool) (x y sg : Bool) (h : xs.length = ys.length) : lessS (xs ++ [x]) (ys ++ [y]) sg = if x != y then y != sg else lessB xs ys false := by
  unfold lessS
  cases sg
  · simp only [Bool.false_eq_true, if_false]; rw [lessB_snoc x y xs ys _ h]; simp
  · simp only [if_true]; rw [turnB_snoc, turnB_snoc, lessB_snoc _ _ _ _ _ h]; cases x <;> cases y <;> simp
theorem split_last {α : Type} (l : List α) (h : 1 ≤ l.length) : ∃ i a, l = i ++ [a] := by
  rcases List.eq_nil_or_concat l with rfl | ⟨i, a, rfl⟩
  · simp at h
  · exact ⟨i, a, List.concat_eq_append⟩
theorem turn_map {n : Nat} {σ : Nat → Bool} {l : List Int} (h1 : 1 ≤ l.length) (h : ∀ x ∈ l, okLit n x = true) : (turnM l).map (litT σ) = turnB (l.map (litT σ)) := by
  obtain ⟨i, a, rfl⟩ := split_last l h1
  have e : turnM (i ++ [a]) = i ++ [-a] := by unfold turnM; simp [List.set_append]
  rw [e, List.map_append, List.map_append, List.map_cons, List.map_nil, List.map_cons, List.map_nil, turnB_snoc, litT_neg _ (lit_ne (h a (by simp)))]
theorem less_good' {n : Nat} {σ : Nat → Bool} {F : Form} {xs ys : List Int} (hG : Good n σ F) (h1 : 1 ≤ xs.length) (h64 : xs.length ≤ 64) (hl : ys.length = xs.length) (sg : Bool)
    (hx : ∀ x ∈ xs, okLit F.vars x = true) (hy : ∀ y ∈ ys, okLit F.vars y = true) (hv : F.vars + 2 * xs.length < 1048576) (hk : F.cls.length + 12 * xs.length ≤ 1048576) :
    LitOk n σ F (lessM F xs ys sg) (lessS (xs.map (litT σ)) (ys.map (litT σ)) sg) (2 * xs.length) (12 * xs.length) := by
  have := less_good hG h1 h64 hl sg hx hy hv hk
  rw [turn_map h1 hx, turn_map (by omega) hy] at this
  exact this
/-- While the bits above are alike. -/
theorem lessS_top (xs ys : List Bool) (sg : Bool) (h : xs.length = ys.length) (i : Nat) (hi : i < xs.length) (hi' : i < ys.length) (hL : i + 1 < xs.length → lessS xs ys sg = lessB (xs.take (i + 1)) (ys.take (i + 1)) false) :
    (xs[i] ≠ ys[i] → lessS xs ys sg = (ys[i] != (sg && decide (i + 1 = xs.length)))) ∧ (xs[i] = ys[i] → lessS xs ys sg = lessB (xs.take i) (ys.take i) false) := by
  have ex : xs.take (i + 1) = xs.take i ++ [xs[i]] := List.take_succ_eq_append_getElem hi
  have ey : ys.take (i + 1) = ys.take i ++ [ys[i]] := List.take_succ_eq_append_getElem hi'
  have hl : (xs.take i).length = (ys.take i).length := by simp; omega
  by_cases hlast : i + 1 = xs.length
  · have e : lessS xs ys sg = lessS (xs.take i ++ [xs[i]]) (ys.take i ++ [ys[i]]) sg := by
      rw [← ex, ← ey, List.take_of_length_le (by omega), List.take_of_length_le (by omega)]
    rw [e, lessS_snoc _ _ _ _ _ hl]
    constructor
    · intro hne; simp [hne, hlast]
    · intro he; simp [he]
  · rw [hL (by omega), ex, ey, lessB_snoc _ _ _ _ _ hl]
    constructor
    · intro hne; simp [hne, hlast]
    · intro he; simp [he]
end Go.Proofs.YtjcnhnifageikaaDoor
