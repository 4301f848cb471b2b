/-
  The law ReportExamples, plainly: the reference's lines are joined words. No program in sight.
-/
import Derived.Test.YtehjfmbnebeioaaDoorRpP
namespace Go.Proofs.YtehjfmbnebeioaaDoor
set_option linter.unusedSimpArgs false
set_option linter.unusedVariables false
open Go.Lib

def jnR (l : List (List UInt8)) : List UInt8 := Lib.join l [32]
theorem jnR_one (x : List UInt8) : jnR [x] = x := Lib.join_one x [32]
theorem jnR_snoc (x : List UInt8) (l : List (List UInt8)) (y : List UInt8) : jnR (x :: (l ++ [y])) = jnR (x :: l) ++ [32] ++ y := by
  unfold jnR
  rw [Lib.join_cons, Lib.join_cons]
  simp [Lib.joinTail, List.append_assoc]
theorem jnR_step (l : List (List UInt8)) (k : Nat) (hk : k < l.length) : jnR (l.take (k + 1)) = if k = 0 then l[k] else jnR (l.take k) ++ [32] ++ l[k] := by
  rcases l with _ | ⟨x, r⟩
  · simp at hk
  rcases k with _ | m
  · rw [if_pos rfl]; exact Lib.join_one x [32]
  · have hm : m < r.length := by simpa using hk
    rw [if_neg (by omega), List.take_succ_cons, List.take_succ_eq_append_getElem hm, List.take_succ_cons, jnR_snoc]
    rfl
theorem jnR_len (m : Nat) : ∀ (l : List (List UInt8)), (∀ s ∈ l, s.length ≤ m) → (jnR l).length ≤ l.length * (m + 1)
  | [], _ => by unfold jnR Lib.join; exact Nat.zero_le _
  | x :: r, h => by
    have ht : ∀ r : List (List UInt8), (∀ s ∈ r, s.length ≤ m) → (Lib.joinTail [32] r).length ≤ r.length * (m + 1) := by
      intro r
      induction r with
      | nil => intro _; exact Nat.zero_le _
      | cons y q ih =>
        intro hq
        have h1 := ih fun s hs => hq s (List.mem_cons_of_mem _ hs)
        have h2 := hq y (List.mem_cons_self ..)
        unfold Lib.joinTail at h1 ⊢
        have e : (y :: q).length * (m + 1) = q.length * (m + 1) + (m + 1) := by rw [List.length_cons, Nat.succ_mul]
        have e1 : ([32] : List UInt8).length = 1 := rfl
        rw [List.map_cons, List.flatten_cons, List.length_append, List.length_append, e]
        omega
    have h1 := ht r fun s hs => h s (List.mem_cons_of_mem _ hs)
    have h2 := h x (List.mem_cons_self ..)
    unfold jnR
    rw [Lib.join_cons, List.length_append, List.length_cons, Nat.succ_mul]
    omega
theorem row_jnR (word name : List UInt8) (l : List Nat) : jnR (word :: name :: l.map decDigits) = rowR word name l := by
  unfold jnR rowR
  rw [Lib.join_cons]
  simp [Lib.joinTail, List.flatMap, List.map_map, Function.comp_def]
theorem leak_jnR (lv : List UInt8) (b : Bool) : jnR [wLeak, [97, 116], lv, wHow b] = wLeak ++ ([32, 97, 116, 32] : List UInt8) ++ lv ++ ([32] : List UInt8) ++ wHow b := by
  unfold jnR
  rw [Lib.join_cons]
  simp [Lib.joinTail]
theorem rej_jnR (b : Bool) (x y e : List UInt8) : jnR [wReject, if b then [112, 111, 108, 105, 99, 121] else [112, 114, 111, 103, 114, 97, 109], x, y, e] = wReject ++ (if b then ([32, 112, 111, 108, 105, 99, 121, 32] : List UInt8) else [32, 112, 114, 111, 103, 114, 97, 109, 32]) ++ x ++ ([32] : List UInt8) ++ y ++ ([32] : List UInt8) ++ e := by
  unfold jnR
  rw [Lib.join_cons]
  cases b <;> simp [Lib.joinTail]

end Go.Proofs.YtehjfmbnebeioaaDoor
