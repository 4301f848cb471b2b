/-
 Lists of strings, of numbers, and lists of lists of numbers, in memory; whether two are equal: the walks.
 Operators: Of, Name, Arity.
-/
import Derived.Test.YtoofbgoeipijcaaDoorUB0
import Derived.Test.YtoofbgoeipijcaaDoorProg
import Derived.Laws.StructEq
import Derived.Deep.QuietTactic
import Derived.BigQuiet
import Derived.Test.YtoofbgoeipijcaaDoorUSPrO
namespace Go.Proofs.YtoofbgoeipijcaaDoor
set_option linter.unusedSimpArgs false
set_option linter.unusedVariables false
open Go.RowKit
attribute [local go_sem] Oper.semAt_some

abbrev By := List UInt8
def sV (s : By) : Value := .string ⟨s.toArray⟩
def nV (n : Nat) : Value := .int .u64 (n : Int)
def Strs (R : Nat → Prop) (w : World) (v : Value) (l : List By) : Prop := Sl R w v (l.map sV)
def Nums (R : Nat → Prop) (w : World) (v : Value) (l : List Nat) : Prop := Sl R w v (l.map nV)
/-- A slice of slices of numbers. -/
def NLL (R : Nat → Prop) (w : World) (v : Value) (ls : List (List Nat)) : Prop :=
 ∃ vs, Sl R w v vs ∧ vs.length = ls.length ∧ ∀ i (h : i < ls.length) (h' : i < vs.length), Nums R w vs[i] ls[i]
theorem Strs.op {R : Nat → Prop} {w : World} {v : Value} {xs : List By} (h : Strs R w v xs) :
  ∃ p c, v = .slice p xs.length c ∧ xs.length ≤ c ∧ c ≤ maxLen ∧ xs.length ≤ 140737488355328 ∧ RowR R w p (xs.map sV) := by
 obtain ⟨p, c, e, h1, h2, h3, hr⟩ := h
 rw [List.length_map] at e h1 h3
 exact ⟨p, c, e, h1, h2, h3, hr⟩
theorem Nums.op {R : Nat → Prop} {w : World} {v : Value} {xs : List Nat} (h : Nums R w v xs) :
  ∃ p c, v = .slice p xs.length c ∧ xs.length ≤ c ∧ c ≤ maxLen ∧ xs.length ≤ 140737488355328 ∧ RowR R w p (xs.map nV) := by
 obtain ⟨p, c, e, h1, h2, h3, hr⟩ := h
 rw [List.length_map] at e h1 h3
 exact ⟨p, c, e, h1, h2, h3, hr⟩
theorem NLL.op {R : Nat → Prop} {w : World} {v : Value} {xs : List (List Nat)} (h : NLL R w v xs) :
  ∃ p c vs, v = .slice p xs.length c ∧ xs.length ≤ c ∧ c ≤ maxLen ∧ xs.length ≤ 140737488355328 ∧ RowR R w p vs ∧ vs.length = xs.length ∧ ∀ i (h : i < xs.length) (h' : i < vs.length), Nums R w vs[i] xs[i] := by
 obtain ⟨vs, ⟨p, c, e, h1, h2, h3, hr⟩, hl, hx⟩ := h
 exact ⟨p, c, vs, by rw [← hl]; exact e, by omega, h2, by omega, hr, hl, hx⟩
theorem Strs.keep {R R' : Nat → Prop} {w w' : World} {v : Value} {xs : List By} (h : Strs R w v xs) (hf : ∀ k, R k → R' k ∧ w'.heap[k]? = w.heap[k]?) : Strs R' w' v xs := Sl.keep h hf
theorem Nums.keep {R R' : Nat → Prop} {w w' : World} {v : Value} {xs : List Nat} (h : Nums R w v xs) (hf : ∀ k, R k → R' k ∧ w'.heap[k]? = w.heap[k]?) : Nums R' w' v xs := Sl.keep h hf
theorem NLL.keep {R R' : Nat → Prop} {w w' : World} {v : Value} {xs : List (List Nat)} (h : NLL R w v xs) (hf : ∀ k, R k → R' k ∧ w'.heap[k]? = w.heap[k]?) : NLL R' w' v xs :=
 let ⟨vs, h1, h2, h3⟩ := h; ⟨vs, Sl.keep h1 hf, h2, fun i hi hi' => (h3 i hi hi').keep hf⟩
theorem Strs.drewN {R : Nat → Prop} {w : World} {v : Value} {xs : List By} (h : Strs R w v xs) (n : Nat) : Strs R (w.drewN n) v xs := h.keep fun k hk => ⟨hk, rfl⟩
theorem Nums.drewN {R : Nat → Prop} {w : World} {v : Value} {xs : List Nat} (h : Nums R w v xs) (n : Nat) : Nums R (w.drewN n) v xs := h.keep fun k hk => ⟨hk, rfl⟩
theorem NLL.drewN {R : Nat → Prop} {w : World} {v : Value} {xs : List (List Nat)} (h : NLL R w v xs) (n : Nat) : NLL R (w.drewN n) v xs := h.keep fun k hk => ⟨hk, rfl⟩
theorem Strs.below {w w' : World} {v : Value} {xs : List By} (h : Strs (· < w.heap.size) w v xs) (hb : Below w.heap.size w w') : Strs (· < w'.heap.size) w' v xs := h.keep fun k hk => ⟨Nat.lt_of_lt_of_le hk hb.size, hb.block k hk⟩
theorem Nums.below {w w' : World} {v : Value} {xs : List Nat} (h : Nums (· < w.heap.size) w v xs) (hb : Below w.heap.size w w') : Nums (· < w'.heap.size) w' v xs := h.keep fun k hk => ⟨Nat.lt_of_lt_of_le hk hb.size, hb.block k hk⟩
theorem NLL.below {w w' : World} {v : Value} {xs : List (List Nat)} (h : NLL (· < w.heap.size) w v xs) (hb : Below w.heap.size w w') : NLL (· < w'.heap.size) w' v xs := h.keep fun k hk => ⟨Nat.lt_of_lt_of_le hk hb.size, hb.block k hk⟩
theorem Strs.nil {R : Nat → Prop} {w : World} : Strs R w (.slice none 0 0) [] := Sl.nil
theorem Nums.nil {R : Nat → Prop} {w : World} : Nums R w (.slice none 0 0) [] := Sl.nil
theorem NLL.nil {R : Nat → Prop} {w : World} : NLL R w (.slice none 0 0) [] := ⟨[], Sl.nil, rfl, fun i h => absurd h (by simp)⟩
theorem take_nextL {α : Type} {a b : List α} {k : Nat} (h : a.take k = b.take k) (ha : k < a.length) (hb : k < b.length) (he : a[k] = b[k]) : a.take (k + 1) = b.take (k + 1) := by
 rw [List.take_add_one, List.take_add_one, h, List.getElem?_eq_getElem ha, List.getElem?_eq_getElem hb, he]
theorem ne_atL {α : Type} {a b : List α} {k : Nat} (ha : k < a.length) (hb : k < b.length) (he : a[k] ≠ b[k]) : a ≠ b := by
 rintro rfl; exact he rfl
theorem eq_fullL {α : Type} {a b : List α} (h : a.take a.length = b.take a.length) (hl : a.length = b.length) : a = b := by
 rw [List.take_of_length_le (Nat.le_refl _), List.take_of_length_le (by omega)] at h; exact h
theorem str_neF {x y : By} (h : x ≠ y) : (x == y) = false := by rw [beq_eq_false_iff_ne]; exact h
end Go.Proofs.YtoofbgoeipijcaaDoor

namespace Go.Proofs.YtoofbgoeipijcaaDoor
set_option linter.unusedSimpArgs false
set_option linter.unusedVariables false
open Go.RowKit Go.Shelf
attribute [local go_sem] Oper.semAt_some

theorem index_names (ik : IntKind) (hik : ik = .i64 ∨ ik = .u8) (k : Nat) (hk : k < 22) (w : World) : (Instr.index 114 (.agg (rowS finN)) (.int ik (k : Int))).run Tryd.prog w = .ok (.string ⟨(finN.getD k []).toArray⟩) w := by
 rcases hik with rfl | rfl
 ·match k, hk with
  | 0, _ => exact show _ = _ from by kernel_rfl
  | 1, _ => exact show _ = _ from by kernel_rfl
  | 2, _ => exact show _ = _ from by kernel_rfl
  | 3, _ => exact show _ = _ from by kernel_rfl
  | 4, _ => exact show _ = _ from by kernel_rfl
  | 5, _ => exact show _ = _ from by kernel_rfl
  | 6, _ => exact show _ = _ from by kernel_rfl
  | 7, _ => exact show _ = _ from by kernel_rfl
  | 8, _ => exact show _ = _ from by kernel_rfl
  | 9, _ => exact show _ = _ from by kernel_rfl
  | 10, _ => exact show _ = _ from by kernel_rfl
  | 11, _ => exact show _ = _ from by kernel_rfl
  | 12, _ => exact show _ = _ from by kernel_rfl
  | 13, _ => exact show _ = _ from by kernel_rfl
  | 14, _ => exact show _ = _ from by kernel_rfl
  | 15, _ => exact show _ = _ from by kernel_rfl
  | 16, _ => exact show _ = _ from by kernel_rfl
  | 17, _ => exact show _ = _ from by kernel_rfl
  | 18, _ => exact show _ = _ from by kernel_rfl
  | 19, _ => exact show _ = _ from by kernel_rfl
  | 20, _ => exact show _ = _ from by kernel_rfl
  | 21, _ => exact show _ = _ from by kernel_rfl
  | n + 22, h => omega
 ·match k, hk with
  | 0, _ => exact show _ = _ from by kernel_rfl
  | 1, _ => exact show _ = _ from by kernel_rfl
  | 2, _ => exact show _ = _ from by kernel_rfl
  | 3, _ => exact show _ = _ from by kernel_rfl
  | 4, _ => exact show _ = _ from by kernel_rfl
  | 5, _ => exact show _ = _ from by kernel_rfl
  | 6, _ => exact show _ = _ from by kernel_rfl
  | 7, _ => exact show _ = _ from by kernel_rfl
  | 8, _ => exact show _ = _ from by kernel_rfl
  | 9, _ => exact show _ = _ from by kernel_rfl
  | 10, _ => exact show _ = _ from by kernel_rfl
  | 11, _ => exact show _ = _ from by kernel_rfl
  | 12, _ => exact show _ = _ from by kernel_rfl
  | 13, _ => exact show _ = _ from by kernel_rfl
  | 14, _ => exact show _ = _ from by kernel_rfl
  | 15, _ => exact show _ = _ from by kernel_rfl
  | 16, _ => exact show _ = _ from by kernel_rfl
  | 17, _ => exact show _ = _ from by kernel_rfl
  | 18, _ => exact show _ = _ from by kernel_rfl
  | 19, _ => exact show _ = _ from by kernel_rfl
  | 20, _ => exact show _ = _ from by kernel_rfl
  | 21, _ => exact show _ = _ from by kernel_rfl
  | n + 22, h => omega
theorem index_arity (k : Nat) (hk : k < 22) (w : World) : (Instr.index 157 (.agg fin22) (.int .u8 (k : Int))).run Tryd.prog w = .ok (.int .u8 (arityM k : Int)) w := by
 match k, hk with
 | 0, _ => exact show _ = _ from by kernel_rfl
 | 1, _ => exact show _ = _ from by kernel_rfl
 | 2, _ => exact show _ = _ from by kernel_rfl
 | 3, _ => exact show _ = _ from by kernel_rfl
 | 4, _ => exact show _ = _ from by kernel_rfl
 | 5, _ => exact show _ = _ from by kernel_rfl
 | 6, _ => exact show _ = _ from by kernel_rfl
 | 7, _ => exact show _ = _ from by kernel_rfl
 | 8, _ => exact show _ = _ from by kernel_rfl
 | 9, _ => exact show _ = _ from by kernel_rfl
 | 10, _ => exact show _ = _ from by kernel_rfl
 | 11, _ => exact show _ = _ from by kernel_rfl
 | 12, _ => exact show _ = _ from by kernel_rfl
 | 13, _ => exact show _ = _ from by kernel_rfl
 | 14, _ => exact show _ = _ from by kernel_rfl
 | 15, _ => exact show _ = _ from by kernel_rfl
 | 16, _ => exact show _ = _ from by kernel_rfl
 | 17, _ => exact show _ = _ from by kernel_rfl
 | 18, _ => exact show _ = _ from by kernel_rfl
 | 19, _ => exact show _ = _ from by kernel_rfl
 | 20, _ => exact show _ = _ from by kernel_rfl
 | 21, _ => exact show _ = _ from by kernel_rfl
 | n + 22, h => omega

/-- The number of a name, and the error. -/
def ofGo (s : Bs) : Nat → Nat × Int
 | 0 => (0, 6)
 | n + 1 => if finN.getD (21 - n) [] = s then (21 - n, 0) else ofGo s n
def ofM (s : Bs) : Nat × Int := if s = [] then (0, 6) else ofGo s 22
theorem ofGo_err (s : Bs) : ∀ n, n ≤ 22 → ((ofGo s n).2 = 0 ↔ s ∈ finN.drop (22 - n))
 | 0, _ => by simp [ofGo]; decide +revert
 | n + 1, h => by
  have hlt : 21 - n < finN.length := by show 21 - n < 22; omega
  have hd : finN.drop (22 - (n + 1)) = finN[21 - n] :: finN.drop (22 - n) := by
   rw [show 22 - (n + 1) = 21 - n by omega, List.drop_eq_getElem_cons hlt, show 21 - n + 1 = 22 - n by omega]
  have hg : finN.getD (21 - n) [] = finN[21 - n] := by rw [List.getD_eq_getElem?_getD, List.getElem?_eq_getElem hlt]; rfl
  rw [hd, List.mem_cons, ofGo, hg]
  by_cases e : finN[21 - n] = s
  ·rw [if_pos e]; simp [e]
  ·rw [if_neg e, ofGo_err s n (by omega)]
   exact ⟨.inr, fun h => h.resolve_left fun h => e h.symm⟩
theorem ofM_err (s : Bs) : ((ofM s).2 != 0) = !opB s := by
 have h : (ofM s).2 = 0 ↔ opB s = true := by
  unfold ofM opB
  by_cases e : s = []
  ·subst e; rw [if_pos rfl]; decide
  ·rw [if_neg e, ofGo_err s 22 (Nat.le_refl _), List.contains_iff_mem]
   show s ∈ finN ↔ _
   unfold finN
   simp [e]
 cases hb : opB s
 ·rw [hb] at h
  have : (ofM s).2 ≠ 0 := fun e => by have := h.1 e; cases this
  simpa using this
 ·have := h.2 hb
  rw [this]; rfl

set_option maxRecDepth 100000 in
set_option maxHeartbeats 2000000 in
theorem of_any (s : Bs) (w : World) : Calls Tryd.prog 102 #[.string ⟨s.toArray⟩] w fun e w' => e = .returned (.tuple #[.int .u8 ((ofM s).1 : Int), .int .i64 (ofM s).2]) ∧ Below w.heap.size w w' := by
 by_cases h0 : s = []
 ·have HM := hid (show ofM s = (0, 6) from by unfold ofM; rw [if_pos h0])
  subst h0
  go_enter Tryd.func102, Tryd.ntmps102
  go_wp2
  go_ret2
  exact ⟨by rw [HM.out]; rfl, Below.refl _ _⟩
 have HM := hid (show ofM s = ofGo s 22 from by unfold ofM; rw [if_neg h0])
 have g0 : s.isEmpty = false := by cases s with | nil => exact absurd rfl h0 | cons a r => rfl
 clear h0
 go_enter Tryd.func102, Tryd.ntmps102
 go_wp2_with (go_at_call 68; refine (names_any w).mono ?_; rintro e w1 ⟨rfl, hb1⟩; have HB1 := hid hb1; clear hb1)
 go_loopw [9] (fun iv wr => wr = w1 ∧ ∃ k : Nat, k ≤ 22 ∧ iv = .int .i64 (k : Int) ∧ ofGo s 22 = ofGo s (22 - k)) (fun iv _ => 22 - (intOf iv).toNat)
 case atStart => exact ⟨rfl, 0, by omega, rfl, rfl⟩
 case round =>
  obtain ⟨rfl, k, hk, rfl, hm⟩ := hrel
  have HMK := hid hm
  clear hm
  by_cases hlt : k < 22
  ·have g1 : decide ((k : Int) < 22) = true := by simp; omega
   have hix := index_names .i64 (.inl rfl) k hlt
   have hstep : ofGo s (22 - k) = if finN.getD k [] = s then (k, 0) else ofGo s (22 - (k + 1)) := by
    rw [show 22 - k = (21 - k) + 1 by omega, ofGo, show 21 - (21 - k) = k by omega, show 22 - (k + 1) = 21 - k by omega]
   obtain ⟨x, hx⟩ : ∃ x, finN.getD k [] = x := ⟨_, rfl⟩
   rw [hx] at hix hstep
   have hu : (IntKind.u8).wrap (k : Int) = (k : Int) := IntWalk.u8_in _ (by omega)
   have HLT := hid hlt
   by_cases hxs : x = s
   ·have g2 : (x == s) = true := by rw [hxs]; exact beq_self_eq_true s
    rw [if_pos hxs] at hstep
    have HS := hid hstep
    clear hx hxs hstep
    go_wp2_with fail
    go_ret2
    refine ⟨?_, HB1.out⟩
    rw [HM.out, HMK.out, HS.out]
    rfl
   ·have g2 : (x == s) = false := beq_eq_false_iff_ne.2 hxs
    rw [if_neg hxs] at hstep
    have HS := hid hstep
    clear hx hxs hstep
    go_wp2_with fail
    go_roundw
    case rel => exact ⟨trivial, k + 1, HLT.out, by go_num, by rw [HMK.out, HS.out]⟩
    case measure => (have := HLT.out; simp [intOf]; omega)
  ·obtain rfl : k = 22 := by omega
   have g1 : decide (((22 : Nat) : Int) < 22) = false := by decide
   clear hlt
   go_wp2_with fail
   go_ret2
   refine ⟨?_, HB1.out⟩
   rw [HM.out, HMK.out]
   rfl

/-- The name of an operator, and the error. -/
def opNameM (o : Nat) : Bs × Int := if 21 < o then ([], 3) else if o < 2 then ([], 6) else (finN.getD o [], 0)
set_option maxRecDepth 100000 in
set_option maxHeartbeats 2000000 in
theorem opname_any (o : Nat) (w : World) : Calls Tryd.prog 47 #[.int .u8 (o : Int)] w fun e w' => e = .returned (.tuple #[.string ⟨(opNameM o).1.toArray⟩, .int .i64 (opNameM o).2]) ∧ Below w.heap.size w w' := by
 rcases (show 21 < o ∨ (o ≤ 21 ∧ o < 2) ∨ (o ≤ 21 ∧ 2 ≤ o) by omega) with h | ⟨h1, h2⟩ | ⟨h1, h2⟩
 ·have HM := hid (show opNameM o = ([], 3) from by unfold opNameM; rw [if_pos h])
  have g1 : decide ((21 : Int) < (o : Int)) = true := by simp; omega
  clear h
  go_enter Tryd.func47, Tryd.ntmps47
  go_wp2
  go_ret2
  exact ⟨by rw [HM.out]; rfl, Below.refl _ _⟩
 ·have HM := hid (show opNameM o = ([], 6) from by unfold opNameM; rw [if_neg (by omega), if_pos h2])
  have g1 : decide ((21 : Int) < (o : Int)) = false := by simp; omega
  have g2 : decide ((o : Int) < 2) = true := by simp; omega
  clear h1 h2
  go_enter Tryd.func47, Tryd.ntmps47
  go_wp2
  go_ret2
  exact ⟨by rw [HM.out]; rfl, Below.refl _ _⟩
 ·have HM := hid (show opNameM o = (finN.getD o [], 0) from by unfold opNameM; rw [if_neg (by omega), if_neg (by omega)])
  have g1 : decide ((21 : Int) < (o : Int)) = false := by simp; omega
  have g2 : decide ((o : Int) < 2) = false := by simp; omega
  have hix := index_names .u8 (.inr rfl) o (by omega)
  clear h1 h2
  go_enter Tryd.func47, Tryd.ntmps47
  go_wp2_with (go_at_call 68; refine (names_any w).mono ?_; rintro e w1 ⟨rfl, hb1⟩; have HB1 := hid hb1; clear hb1)
  go_ret2
  exact ⟨by rw [HM.out]; rfl, HB1.out⟩
set_option maxRecDepth 100000 in
set_option maxHeartbeats 2000000 in
theorem arity_any (o : Nat) (ho : o ≤ 21) (w : World) : Calls Tryd.prog 105 #[.int .u8 (o : Int)] w fun e w' => e = .returned (.tuple #[.int .i64 (arityM o : Int), .int .i64 0]) ∧ Below w.heap.size w w' := by
 have g1 : decide ((21 : Int) < (o : Int)) = false := by simp; omega
 have hix := index_arity o (by omega)
 have hm : arityM o ≤ 3 := by unfold arityM; split; omega; split; omega; split <;> omega
 clear ho
 generalize arityM o = m at hix hm ⊢
 go_enter Tryd.func105, Tryd.ntmps105
 go_wp2_with (go_at_call 113; refine (arities_any w).mono ?_; rintro e w1 ⟨rfl, hb1⟩; have HB1 := hid hb1; clear hb1)
 go_ret2
 exact ⟨rfl, HB1.out⟩

end Go.Proofs.YtoofbgoeipijcaaDoor
