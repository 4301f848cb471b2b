/-
  What the adder refuses on a nil builder; what it refuses on a circuit (of a state Bas).
-/
import Derived.Test.YtngimdbjcelkeaaMl2
namespace Go.Proofs.Ytngimdbjcelkeaa
set_option linter.unusedSimpArgs false
set_option linter.unusedVariables false
open Go.RowKit Go.Shelf
attribute [local go_sem] Oper.semAt_some

theorem acheck_nil (vs vw : Value) (w : World) : Calls Try.prog 87 #[.pointer none, vs, vw] w fun e w' => e = .returned (.int .i64 1) ∧ w = w' := by
  go_enter Try.func87, Try.ntmps87
  go_wp2
  go_ret
  exact ⟨rfl, rfl⟩

local macro "below_all" : tactic => `(tactic| (repeat' (first | exact Below.refl _ _ | refine Below.drew ?_ | refine Below.alloc ?_ (by first | exact Nat.le_refl _ | (simp only [World.size_alloc]; omega)) _)))

theorem add_nil (px py : Option Addr) (n m cx cy : Nat) (c : Int) (w : World) : Calls Try.prog 25 #[.pointer none, (.slice px n cx), (.slice py m cy), .int .i64 c] w fun e w' => e = .returned (.tuple #[.slice none 0 0, .int .i64 1]) ∧ Below w.heap.size w w' := by
  go_enter Try.func25, Try.ntmps25
  go_wp2_with (go_at_call 87; refine (acheck_nil _ _ _).mono ?_; rintro e w1 ⟨rfl, rfl⟩)
  go_ret2
  exact ⟨rfl, by below_all⟩
theorem sub_nil (px py : Option Addr) (n m cx cy : Nat) (w : World) : Calls Try.prog 26 #[.pointer none, (.slice px n cx), (.slice py m cy)] w fun e w' => e = .returned (.tuple #[.slice none 0 0, .int .i64 1]) ∧ Below w.heap.size w w' := by
  go_enter Try.func26, Try.ntmps26
  go_wp2_with (go_at_call 87; refine (acheck_nil _ _ _).mono ?_; rintro e w1 ⟨rfl, rfl⟩)
  go_ret2
  exact ⟨rfl, by below_all⟩
theorem choose_nil (px py : Option Addr) (n m cx cy : Nat) (c : Int) (w : World) : Calls Try.prog 43 #[.pointer none, .int .i64 c, (.slice px n cx), (.slice py m cy)] w fun e w' => e = .returned (.tuple #[.slice none 0 0, .int .i64 1]) ∧ Below w.heap.size w w' := by
  go_enter Try.func43, Try.ntmps43
  go_wp2_with (go_at_call 87; refine (acheck_nil _ _ _).mono ?_; rintro e w1 ⟨rfl, rfl⟩)
  go_ret2
  exact ⟨rfl, by below_all⟩
theorem equal_nil (px py : Option Addr) (n m cx cy : Nat) (w : World) : Calls Try.prog 33 #[.pointer none, (.slice px n cx), (.slice py m cy)] w fun e w' => e = .returned (.tuple #[.int .i64 0, .int .i64 1]) ∧ Below w.heap.size w w' := by
  go_enter Try.func33, Try.ntmps33
  go_wp2_with (go_at_call 87; refine (acheck_nil _ _ _).mono ?_; rintro e w1 ⟨rfl, rfl⟩)
  go_ret2
  exact ⟨rfl, by below_all⟩
theorem less_nil (px py : Option Addr) (n m cx cy : Nat) (sg : Bool) (w : World) : Calls Try.prog 32 #[.pointer none, (.slice px n cx), (.slice py m cy), .bool sg] w fun e w' => e = .returned (.tuple #[.int .i64 0, .int .i64 1]) ∧ Below w.heap.size w w' := by
  go_enter Try.func32, Try.ntmps32
  go_wp2_with (go_at_call 87; refine (acheck_nil _ _ _).mono ?_; rintro e w1 ⟨rfl, rfl⟩)
  go_ret2
  exact ⟨rfl, by below_all⟩
theorem any_nil (px : Option Addr) (n cx : Nat) (w : World) : Calls Try.prog 44 #[.pointer none, (.slice px n cx)] w fun e w' => e = .returned (.tuple #[.int .i64 0, .int .i64 1]) ∧ Below w.heap.size w w' := by
  go_enter Try.func44, Try.ntmps44
  go_wp2_with (go_at_call 87; refine (acheck_nil _ _ _).mono ?_; rintro e w1 ⟨rfl, rfl⟩)
  go_ret2
  exact ⟨rfl, by below_all⟩

theorem ints_take {R : Nat → Prop} {w : World} {p : Option Addr} {n c : Nat} {xs : List Int} (h : Ints R w (.slice p n c) xs) (k : Nat) (hk : k ≤ n) : Ints R w (.slice p k c) (xs.take k) := by
  obtain ⟨p', c', e, h1, h2, h3, hr⟩ := h.op
  injection e with e1 e2 e3
  subst e1 e2 e3
  have hl : (xs.take k).length = k := by rw [List.length_take]; omega
  exact ⟨_, _, by rw [List.length_map, hl], by rw [List.length_map, hl]; omega, h2, by rw [List.length_map, hl]; omega, by rw [List.map_take]; exact hr.take k⟩
/-- A literal, as a word. -/
theorem LitsAre.one {σ : Nat → Bool} {F : Form} {z : Int} {b : Bool} (h : LitIs σ F z b) : LitsAre σ F [z] [b] :=
  ⟨fun x hx => by rw [List.mem_singleton] at hx; subst hx; exact h.1, by rw [List.map_cons, h.2]; rfl⟩
/-- A word that is not there. -/
theorem ints_none (R : Nat → Prop) (w : World) : Ints R w (.slice none 0 0) [] := ⟨Option.none, 0, rfl, Nat.le_refl _, by unfold maxLen; omega, by simp, .inl rfl⟩

section
variable {w0 w : World} {bb n V K : Nat} {vin vval vx vy : Value} {σ : Nat → Bool} {F : Form} {xs ys : List Int} {er : Int} (h : Bas w0 bb n vin vval V K w σ F)
  (hx : Ints (Away bb w) w vx xs) (hy : Ints (Away bb w) w vy ys) (hne : er ≠ 0)
include h hx hne
theorem Bas.noAny (hl : ∀ x ∈ xs, -9223372036854775807 ≤ x ∧ x ≤ 9223372036854775807) (hc : checkM F [] [xs] = er) :
    Calls Try.prog 44 #[.pointer (some ⟨bb, 0, none⟩), vx] w (BasE w0 bb n vin vval V K w σ F er) := by
  have e : anyM F xs = (0, er, F) := by unfold anyM; rw [hc, if_neg hne]
  exact (any_any bb F xs vx w h.st.c.b hx hl).mono fun _ _ hp => h.refuseL (by rw [e]) (by rw [e]) hp
include hy
theorem Bas.noAdd {z : Int} (hl : ∀ l ∈ [z] :: [xs, ys], ∀ x ∈ l, -9223372036854775807 ≤ x ∧ x ≤ 9223372036854775807) (hc : checkM F [z] [xs, ys] = er) :
    Calls Try.prog 25 #[.pointer (some ⟨bb, 0, none⟩), vx, vy, .int .i64 z] w (BasE w0 bb n vin vval V K w σ F er) := by
  have e : addM F xs ys z = ([], er, F) := by unfold addM; rw [hc, if_neg hne]
  exact (add_any bb F xs ys z vx vy w h.st.c.b hx hy hl).mono fun _ _ hp => h.refuseW (by rw [e]) (by rw [e]) hp
theorem Bas.noChoose {z : Int} (hl : ∀ l ∈ [z] :: [xs, ys], ∀ x ∈ l, -9223372036854775807 ≤ x ∧ x ≤ 9223372036854775807) (hc : checkM F [z] [xs, ys] = er) :
    Calls Try.prog 43 #[.pointer (some ⟨bb, 0, none⟩), .int .i64 z, vx, vy] w (BasE w0 bb n vin vval V K w σ F er) := by
  have e : chooseM F z xs ys = ([], er, F) := by unfold chooseM; rw [hc, if_neg hne]
  exact (choose_any bb F z xs ys vx vy w h.st.c.b hx hy hl).mono fun _ _ hp => h.refuseW (by rw [e]) (by rw [e]) hp
theorem Bas.noSub (hl : ∀ l ∈ [xs, ys], ∀ x ∈ l, -9223372036854775807 ≤ x ∧ x ≤ 9223372036854775807) (hyl : ys.length ≤ 17592186044416) (hc : checkM F [] [xs, ys] = er) :
    Calls Try.prog 26 #[.pointer (some ⟨bb, 0, none⟩), vx, vy] w (BasE w0 bb n vin vval V K w σ F er) := by
  have e : subM F xs ys = ([], er, F) := by unfold subM; rw [hc, if_neg hne]
  exact (sub_any bb F xs ys vx vy w h.st.c.b hx hy hl hyl).mono fun _ _ hp => h.refuseW (by rw [e]) (by rw [e]) hp
theorem Bas.noEqual (hl : ∀ l ∈ [xs, ys], ∀ x ∈ l, -9223372036854775807 ≤ x ∧ x ≤ 9223372036854775807) (hc : checkM F [] [xs, ys] = er) :
    Calls Try.prog 33 #[.pointer (some ⟨bb, 0, none⟩), vx, vy] w (BasE w0 bb n vin vval V K w σ F er) := by
  have e : equalM F xs ys = (0, er, F) := by unfold equalM; rw [hc, if_neg hne]
  exact (equal_any bb F xs ys vx vy w h.st.c.b hx hy hl).mono fun _ _ hp => h.refuseL (by rw [e]) (by rw [e]) hp
theorem Bas.noLess {sg : Bool} (hl : ∀ l ∈ [xs, ys], ∀ x ∈ l, -9223372036854775807 ≤ x ∧ x ≤ 9223372036854775807) (hc : checkM F [] [xs, ys] = er) :
    Calls Try.prog 32 #[.pointer (some ⟨bb, 0, none⟩), vx, vy, .bool sg] w (BasE w0 bb n vin vval V K w σ F er) := by
  have e : lessM F xs ys sg = (0, er, F) := by unfold lessM; rw [hc, if_neg hne]
  exact (less_any bb F xs ys sg vx vy w h.st.c.b hx hy hl).mono fun _ _ hp => h.refuseL (by rw [e]) (by rw [e]) hp
end

/-- The closures of AdderNames: what they are given is shown. -/
theorem names1_any (k bb : Nat) (vin vval : Value) (want : Int) (p : Option Addr) (c : Nat) (w : World) (Q : World → Prop) (hS : BoxS k (.pointer (some ⟨bb, 0, none⟩)) vin vval w)
    (hs : Calls Try.prog 41 #[.agg #[.pointer (some ⟨bb, 0, none⟩), vin, vval], .int .u64 want, .int .i64 0, .slice p 3 c] w fun e w' => e = .returned (.bool true) ∧ Q w') :
    Calls Try.prog 40 #[.int .u64 want, .slice p 3 c, .int .i64 0, .pointer (some ⟨k, 0, none⟩)] w fun e w' => e = .returned (.bool true) ∧ Q w' := by
  obtain ⟨s0, s1, s2⟩ := hS
  have HC := hid hs
  clear hs
  go_enter Try.func40, Try.ntmps40
  go_wp2_with (go_at_call 41; refine HC.out.mono ?_; rintro e w1 ⟨rfl, hq⟩; have HQ := hid hq; clear hq)
  go_ret
  exact ⟨rfl, HQ.out⟩
theorem names2_any (k bb : Nat) (vin vval : Value) (want z : Int) (w : World) (Q : World → Prop) (hS : BoxS k (.pointer (some ⟨bb, 0, none⟩)) vin vval w)
    (hs : Calls Try.prog 41 #[.agg #[.pointer (some ⟨bb, 0, none⟩), vin, vval], .int .u64 want, .int .i64 0, .slice (some ⟨w.heap.size, 0, none⟩) 1 1] (w.alloc (.cells #[.int .i64 z] 3)) fun e w' => e = .returned (.bool true) ∧ Q w') :
    Calls Try.prog 42 #[.int .u64 want, .int .i64 z, .int .i64 0, .pointer (some ⟨k, 0, none⟩)] w fun e w' => e = .returned (.bool true) ∧ Q w' := by
  obtain ⟨s0, s1, s2⟩ := hS
  have HC := hid hs
  clear hs
  go_enter Try.func42, Try.ntmps42
  go_wp2_with (go_at_call 41; refine HC.out.mono ?_; rintro e w1 ⟨rfl, hq⟩; have HQ := hid hq; clear hq)
  go_ret
  exact ⟨rfl, HQ.out⟩

end Go.Proofs.Ytngimdbjcelkeaa
