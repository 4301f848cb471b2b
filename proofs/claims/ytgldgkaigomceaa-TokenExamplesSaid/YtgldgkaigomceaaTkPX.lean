/-
  The text of the greatest length: its lines. No program in sight.
-/
import Derived.Test.YtgldgkaigomceaaTkPB
namespace Go.Proofs.Ytgldgkaigomceaa
set_option linter.unusedSimpArgs false
set_option linter.unusedVariables false

def patN (j : Nat) : Nat := if j % 61 = 60 then 10 else 97
def patB (j : Nat) : UInt8 := UInt8.ofNat (patN j)
/-- The text: n bytes. -/
def patL (n : Nat) : Bs := (List.range n).map patB
theorem patL_len (n : Nat) : (patL n).length = n := by simp [patL]
theorem patB_nat (j : Nat) : (patB j).toNat = patN j := by
  unfold patB
  rw [UInt8.toNat_ofNat']
  unfold patN
  split <;> rfl
theorem patL_snoc (k : Nat) : patL (k + 1) = patL k ++ [patB k] := by
  unfold patL; rw [List.range_succ, List.map_append]; rfl
theorem patL_at (n j : Nat) (h : j < (patL n).length) : (patL n)[j] = patB j := by simp [patL]
def rowA (r : Nat) : Bs := List.replicate r 97
theorem patL_row (n : Nat) : patL (61 + n) = rowA 60 ++ 10 :: patL n := by
  have h : patL 61 = rowA 60 ++ [10] := by decide
  have e : patL (61 + n) = patL 61 ++ patL n := by
    unfold patL
    rw [List.range_add, List.map_append, List.map_map]
    congr 1
    refine List.map_congr_left fun j _ => ?_
    simp [patB, patN, Nat.add_mod_left]
  rw [e, h, List.append_assoc]; rfl
theorem rowA_nl (r : Nat) : ∀ d ∈ rowA r, d ≠ 10 := by
  intro d hd
  obtain rfl := List.eq_of_mem_replicate hd
  decide
theorem lt_as (n k : Nat) : ∀ (r i : Nat) (t : Bs), lt n (rowA r) i (some (t, k)) [] = .ok [(t ++ rowA r, n, k)]
  | 0, i, t => by simp [rowA, lt, flushW]
  | r + 1, i, t => by
    have e : rowA (r + 1) = 97 :: rowA r := rfl
    rw [e, lt_cons, if_neg (by decide), if_neg (by decide), if_neg (by decide)]
    show lt n (rowA r) (i + 1) (some (t ++ [97], k)) [] = _
    rw [lt_as n k r (i + 1) (t ++ [97]), List.append_assoc]; rfl
theorem lt_row (n r : Nat) : lt n (rowA (r + 1)) 0 none [] = .ok [(rowA (r + 1), n, 1)] := by
  have e : rowA (r + 1) = 97 :: rowA r := rfl
  rw [e, lt_cons, if_neg (by decide), if_neg (by decide), if_neg (by decide)]
  show lt n (rowA r) (0 + 1) (some ([97], 1)) [] = _
  rw [lt_as]; rfl
theorem lt_rowA (n : Nat) : lt n (rowA 60) 0 none [] = .ok [(rowA 60, n, 1)] := lt_row n 59
theorem lt_rowB (n : Nat) : lt n (rowA 22) 0 none [] = .ok [(rowA 22, n, 1)] := lt_row n 21
theorem ls_row (n : Nat) (t : Bs) (out : List (List Wd)) : ls n (rowA 60 ++ 10 :: t) out = ls (n + 1) t (out ++ [[(rowA 60, n, 1)]]) := by
  rw [ls, cutNL_at (rowA 60) t (rowA_nl 60)]
  simp only [lt_rowA]
  rw [dif_pos trivial]
  rfl
theorem ls_pat : ∀ (q n : Nat) (out : List (List Wd)), ∃ o, ls n (patL (61 * q + 22)) out = .ok o ∧ o.length = out.length + q + 1
  | 0, n, out => by
    have h : patL (61 * 0 + 22) = rowA 22 := by decide
    rw [h, ls, cutNL_none (rowA 22) (rowA_nl 22)]
    simp only [lt_rowB]
    exact ⟨_, by rw [dif_neg (by decide)], by simp [addL]⟩
  | q + 1, n, out => by
    rw [show 61 * (q + 1) + 22 = 61 + (61 * q + 22) by omega, patL_row, ls_row]
    obtain ⟨o, h1, h2⟩ := ls_pat q (n + 1) (out ++ [[(rowA 60, n, 1)]])
    exact ⟨o, h1, by rw [h2]; simp; omega⟩
theorem tok_pat (n : Nat) (hn : n = 65536) : ∃ o, tok (patL n) = .ok o ∧ o.length = 1075 := by
  obtain ⟨o, h1, h2⟩ := ls_pat 1074 1 []
  refine ⟨o, ?_, by simpa using h2⟩
  rw [show n = 61 * 1074 + 22 by omega]
  exact h1
end Go.Proofs.Ytgldgkaigomceaa
