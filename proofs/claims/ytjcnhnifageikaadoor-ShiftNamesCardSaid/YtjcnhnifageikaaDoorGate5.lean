/-
  The walks of package gate: And, Or, Xor, Mux.
-/
import Derived.Test.YtjcnhnifageikaaDoorGate4
namespace Go.Proofs.YtjcnhnifageikaaDoor
set_option linter.unusedSimpArgs false
set_option linter.unusedVariables false
open Go.RowKit

theorem write_any (bb k : Nat) (kd : Int) (hkd : kd = k) (hk : k ≤ 2) (F : Form) (args : List Int) (p : Option Addr) (n cap : Nat) (w : World) (hB : IsB w bb F) (hn : n = args.length) (hal : args.length = if k = 2 then 3 else 2)
    (hrow : RowR (Away bb w) w p (args.map (Value.int .i64))) (hok : hasAll F.vars args = true) :
    Calls Tryd.prog 50 #[.pointer (some ⟨bb, 0, none⟩),   .int .i64 kd, .slice p n cap] w fun e w' =>
      e = .returned (.tuple #[.int .i64 (writeM F k args).1, .int .i64 (writeM F k args).2.1]) ∧ IsB w' bb (writeM F k args).2.2 ∧ FrB bb w w' := by
  subst hkd
  by_cases hfull : F.vars = 1048576 ∨ 1048576 < F.cls.length + (gateTbl k).length
  · have e : writeM F k args = (0, 5, F) := by simp [writeM, hfull]
    rw [e]
    exact write_full bb k hk F args p n cap w hB hfull
  · have e : writeM F k args = ((F.vars : Int) + 1, 0, ⟨F.vars + 1, F.cls ++ (gateTbl k).map (inst (0 :: ((F.vars : Int) + 1) :: args))⟩) := by simp only [writeM]; rw [if_neg hfull]
    rw [e]
    have := hB.vars
    exact write_room bb k hk F args p n cap w hB hn hal hrow hok (by omega) (by omega)

theorem okLit_bd {n : Nat} {x : Int} (h : okLit n x = true) : x ≠ 0 ∧ x ≤ n ∧ -(n : Int) ≤ x := by
  simp [okLit] at h; omega
theorem hasAll_two {n x y : Int} : hasAll n [x, y] = (okLit n x && okLit n y) := by simp [hasAll]
theorem hasAll_three {n x y z : Int} : hasAll n [x, y, z] = (okLit n x && (okLit n y && okLit n z)) := by simp [hasAll]

/-- The builder behind new blocks. -/
theorem IsB.al {w : World} {bb : Nat} {F : Form} (h : IsB w bb F) (o : Obj) : IsB (w.alloc o) bb F := h.below ((Below.refl _ _).alloc (Nat.le_refl _) o)
theorem FrB.al {w w' : World} {bb : Nat} {F : Form} (h : IsB w bb F) (hf : FrB bb w w') (hB : IsB w' bb F) (o : Obj) : FrB bb w (w'.alloc o) :=
  hf.trans (FrB.of_below hB ((Below.refl _ _).alloc (Nat.le_refl _) o))
theorem IsB.rowNew {w : World} {bb : Nat} {F : Form} (h : IsB w bb F) (cs : List Value) (t : TypeId) : RowR (Away bb (w.alloc (.cells cs.toArray t))) (w.alloc (.cells cs.toArray t)) (some ⟨w.heap.size, 0, none⟩) cs :=
  RowR.lit w cs t (h.away_new ((Below.refl _ _).alloc (Nat.le_refl _) _) (Nat.le_refl _) (by simp))
theorem IsB.cell0 {w : World} {bb : Nat} {F : Form} (h : IsB w bb F) : w.cell? ⟨bb, 0, none⟩ = some (.int .i64 (F.vars : Int)) := by obtain ⟨_, _, h0, _⟩ := h.cells; exact h0

/-- What a gate method comes to. -/
def GatePost (bb : Nat) (w : World) (r : Out) (e : Ending) (w' : World) : Prop :=
  e = .returned (.tuple #[.int .i64 r.1, .int .i64 r.2.1]) ∧ IsB w' bb r.2.2 ∧ FrB bb w w'

set_option maxRecDepth 100000 in
set_option maxHeartbeats 1600000 in
theorem and_any (bb : Nat) (F : Form) (x y : Int) (w : World) (hB : IsB w bb F) (b_x : -9223372036854775807 ≤ x ∧ x ≤ 9223372036854775807) (b_y : -9223372036854775807 ≤ y ∧ y ≤ 9223372036854775807) :
    Calls Tryd.prog 29 #[.pointer (some ⟨bb, 0, none⟩), .int .i64 x, .int .i64 y] w (GatePost bb w (andM F x y)) := by
  have hle := hB.vars
  have hB1 := hB.al (.cells #[.int .i64 x, .int .i64 y] 3)
  have hfr1 := FrB.al hB (Fr.refl _ _) hB (.cells #[.int .i64 x, .int .i64 y] 3)
  have hrow1 := hB.rowNew [.int .i64 x, .int .i64 y] 3
  have hc1 := hB1.cell0
  have hB2 := hB1.al (.cells #[.int .i64 x, .int .i64 y] 3)
  have hfr2 := FrB.al hB hfr1 hB1 (.cells #[.int .i64 x, .int .i64 y] 3)
  have hrow2 := hB1.rowNew [.int .i64 x, .int .i64 y] 3
  rw [World.size_alloc] at hrow2
  have HFR := hid hfr1; have HFR2 := hid hfr2; clear hfr1 hfr2
  by_cases c1 : hasAll F.vars [x, y] = true
  · have hall := c1
    rw [hasAll_two] at hall
    simp only [Bool.and_eq_true] at hall
    obtain ⟨hx, hy⟩ := hall
    obtain ⟨x1, x2, x3⟩ := okLit_bd hx
    obtain ⟨y1, y2, y3⟩ := okLit_bd hy
    clear hx hy
    have C1 := hid c1; clear c1
    by_cases d : x = y
    · have e : andM F x y = (x, 0, F) := by simp only [andM, C1.out, Bool.not_true, Bool.false_eq_true, if_false]; rw [if_pos (by omega)]
      rw [e]; clear e
      subst d
      go_enter Tryd.func29, Tryd.ntmps29
      go_wp2_with (go_at_call 49; refine (has_any bb F.vars _ _ _ [x, x] _ _ rfl (by simp) hc1 (by omega) (by omega) hrow1).mono ?_; rintro e w' ⟨rfl, rfl⟩; rw [C1.out])
      go_ret2
      exact ⟨rfl, hB1, HFR.out⟩
    · have n1 : (x == y) = false := by simp [d]
      have m1 := d; clear d
      by_cases d : y = 1
      · have e : andM F x y = (x, 0, F) := by simp only [andM, C1.out, Bool.not_true, Bool.false_eq_true, if_false]; rw [if_pos (by omega)]
        rw [e]; clear e
        subst d
        go_enter Tryd.func29, Tryd.ntmps29
        go_wp2_with (go_at_call 49; refine (has_any bb F.vars _ _ _ [x, 1] _ _ rfl (by simp) hc1 (by omega) (by omega) hrow1).mono ?_; rintro e w' ⟨rfl, rfl⟩; rw [C1.out])
        go_ret2
        exact ⟨rfl, hB1, HFR.out⟩
      · have n2 : (y == 1) = false := by simp [d]
        have m2 := d; clear d
        by_cases d : x = 1
        · have e : andM F x y = (y, 0, F) := by simp only [andM, C1.out, Bool.not_true, Bool.false_eq_true, if_false]; rw [if_neg (by omega), if_pos (by omega)]
          rw [e]; clear e
          subst d
          go_enter Tryd.func29, Tryd.ntmps29
          go_wp2_with (go_at_call 49; refine (has_any bb F.vars _ _ _ [1, y] _ _ rfl (by simp) hc1 (by omega) (by omega) hrow1).mono ?_; rintro e w' ⟨rfl, rfl⟩; rw [C1.out])
          go_ret2
          exact ⟨rfl, hB1, HFR.out⟩
        · have n3 : (x == 1) = false := by simp [d]
          have m3 := d; clear d
          by_cases d : x = -y
          · have e : andM F x y = (-1, 0, F) := by simp only [andM, C1.out, Bool.not_true, Bool.false_eq_true, if_false]; rw [if_neg (by omega), if_neg (by omega), if_pos (by omega)]
            rw [e]; clear e
            have d' : (x == -y) = true := by simp [d]
            have D := hid d; clear d m1 m2 m3
            go_enter Tryd.func29, Tryd.ntmps29
            go_wp2_with (go_at_call 49; refine (has_any bb F.vars _ _ _ [x, y] _ _ rfl (by simp) hc1 (by omega) (by omega) hrow1).mono ?_; rintro e w' ⟨rfl, rfl⟩; rw [C1.out])
            go_ret2
            exact ⟨rfl, hB1, HFR.out⟩
          · have n4 : (x == -y) = false := by simp [d]
            have m4 := d; clear d
            by_cases d : x = -1
            · have e : andM F x y = (-1, 0, F) := by simp only [andM, C1.out, Bool.not_true, Bool.false_eq_true, if_false]; rw [if_neg (by omega), if_neg (by omega), if_pos (by omega)]
              rw [e]; clear e
              have d' : (x == -1) = true := by simp [d]
              have D := hid d; clear d m1 m2 m3 m4
              go_enter Tryd.func29, Tryd.ntmps29
              go_wp2_with (go_at_call 49; refine (has_any bb F.vars _ _ _ [x, y] _ _ rfl (by simp) hc1 (by omega) (by omega) hrow1).mono ?_; rintro e w' ⟨rfl, rfl⟩; rw [C1.out])
              go_ret2
              exact ⟨rfl, hB1, HFR.out⟩
            · have n5 : (x == -1) = false := by simp [d]
              have m5 := d; clear d
              by_cases d : y = -1
              · have e : andM F x y = (-1, 0, F) := by simp only [andM, C1.out, Bool.not_true, Bool.false_eq_true, if_false]; rw [if_neg (by omega), if_neg (by omega), if_pos (by omega)]
                rw [e]; clear e
                have d' : (y == -1) = true := by simp [d]
                have D := hid d; clear d m1 m2 m3 m4 m5
                go_enter Tryd.func29, Tryd.ntmps29
                go_wp2_with (go_at_call 49; refine (has_any bb F.vars _ _ _ [x, y] _ _ rfl (by simp) hc1 (by omega) (by omega) hrow1).mono ?_; rintro e w' ⟨rfl, rfl⟩; rw [C1.out])
                go_ret2
                exact ⟨rfl, hB1, HFR.out⟩
              · have n6 : (y == -1) = false := by simp [d]
                have m6 := d; clear d
                have e : andM F x y = writeM F 0 [x, y] := by simp only [andM, C1.out, Bool.not_true, Bool.false_eq_true, if_false]; rw [if_neg (by omega), if_neg (by omega), if_neg (by omega)]
                rw [e]; clear e
                clear m1 m2 m3 m4 m5 m6
                go_enter Tryd.func29, Tryd.ntmps29
                go_wp2_with (first | (go_at_call 49; refine (has_any bb F.vars _ _ _ [x, y] _ _ rfl (by simp) hc1 (by omega) (by omega) hrow1).mono ?_; rintro e w' ⟨rfl, rfl⟩; rw [C1.out]) | (go_at_call 50; refine (write_any bb 0 _ rfl (by omega) F [x, y] _ _ _ _ hB2 rfl rfl hrow2 C1.out).mono ?_; rintro e w' ⟨rfl, hB3, hfr3⟩))
                go_ret2
                exact ⟨rfl, hB3, HFR2.out.trans hfr3⟩
  · have e : andM F x y = (0, 3, F) := by simp [andM, c1]
    rw [e]
    have c1' : hasAll F.vars [x, y] = false := by simpa using c1
    have C1 := hid c1'; clear c1 c1' e
    go_enter Tryd.func29, Tryd.ntmps29
    go_wp2_with (go_at_call 49; refine (has_any bb F.vars _ _ _ [x, y] _ _ rfl (by simp) hc1 (by omega) (by omega) hrow1).mono ?_; rintro e w' ⟨rfl, rfl⟩; rw [C1.out])
    go_ret2
    exact ⟨rfl, hB1, HFR.out⟩

set_option maxRecDepth 100000 in
set_option maxHeartbeats 1600000 in
theorem mux_any (bb : Nat) (F : Form) (c x y : Int) (w : World) (hB : IsB w bb F) (b_c : -9223372036854775807 ≤ c ∧ c ≤ 9223372036854775807) (b_x : -9223372036854775807 ≤ x ∧ x ≤ 9223372036854775807) (b_y : -9223372036854775807 ≤ y ∧ y ≤ 9223372036854775807) :
    Calls Tryd.prog 52 #[.pointer (some ⟨bb, 0, none⟩), .int .i64 c, .int .i64 x, .int .i64 y] w (GatePost bb w (muxM F c x y)) := by
  have hle := hB.vars
  have hB1 := hB.al (.cells #[.int .i64 c, .int .i64 x, .int .i64 y] 3)
  have hfr1 := FrB.al hB (Fr.refl _ _) hB (.cells #[.int .i64 c, .int .i64 x, .int .i64 y] 3)
  have hrow1 := hB.rowNew [.int .i64 c, .int .i64 x, .int .i64 y] 3
  have hc1 := hB1.cell0
  have hB2 := hB1.al (.cells #[.int .i64 c, .int .i64 x, .int .i64 y] 3)
  have hfr2 := FrB.al hB hfr1 hB1 (.cells #[.int .i64 c, .int .i64 x, .int .i64 y] 3)
  have hrow2 := hB1.rowNew [.int .i64 c, .int .i64 x, .int .i64 y] 3
  rw [World.size_alloc] at hrow2
  have HFR := hid hfr1; have HFR2 := hid hfr2; clear hfr1 hfr2
  by_cases c1 : hasAll F.vars [c, x, y] = true
  · have hall := c1
    rw [hasAll_three] at hall
    simp only [Bool.and_eq_true] at hall
    obtain ⟨hc, hx, hy⟩ := hall
    obtain ⟨c4, c2, c3⟩ := okLit_bd hc
    obtain ⟨x1, x2, x3⟩ := okLit_bd hx
    obtain ⟨y1, y2, y3⟩ := okLit_bd hy
    clear hc hx hy
    have C1 := hid c1; clear c1
    by_cases d : c = 1
    · have e : muxM F c x y = (x, 0, F) := by simp only [muxM, C1.out, Bool.not_true, Bool.false_eq_true, if_false]; rw [if_pos (by omega)]
      rw [e]; clear e
      subst d
      go_enter Tryd.func52, Tryd.ntmps52
      go_wp2_with (go_at_call 49; refine (has_any bb F.vars _ _ _ [1, x, y] _ _ rfl (by simp) hc1 (by omega) (by omega) hrow1).mono ?_; rintro e w' ⟨rfl, rfl⟩; rw [C1.out])
      go_ret2
      exact ⟨rfl, hB1, HFR.out⟩
    · have n1 : (c == 1) = false := by simp [d]
      have m1 := d; clear d
      by_cases d : x = y
      · have e : muxM F c x y = (x, 0, F) := by simp only [muxM, C1.out, Bool.not_true, Bool.false_eq_true, if_false]; rw [if_pos (by omega)]
        rw [e]; clear e
        subst d
        clear m1
        go_enter Tryd.func52, Tryd.ntmps52
        go_wp2_with (go_at_call 49; refine (has_any bb F.vars _ _ _ [c, x, x] _ _ rfl (by simp) hc1 (by omega) (by omega) hrow1).mono ?_; rintro e w' ⟨rfl, rfl⟩; rw [C1.out])
        go_ret2
        exact ⟨rfl, hB1, HFR.out⟩
      · have n2 : (x == y) = false := by simp [d]
        have m2 := d; clear d
        by_cases d : c = -1
        · have e : muxM F c x y = (y, 0, F) := by simp only [muxM, C1.out, Bool.not_true, Bool.false_eq_true, if_false]; rw [if_neg (by omega), if_pos (by omega)]
          rw [e]; clear e
          subst d
          clear m1 m2
          go_enter Tryd.func52, Tryd.ntmps52
          go_wp2_with (go_at_call 49; refine (has_any bb F.vars _ _ _ [-1, x, y] _ _ rfl (by simp) hc1 (by omega) (by omega) hrow1).mono ?_; rintro e w' ⟨rfl, rfl⟩; rw [C1.out])
          go_ret2
          exact ⟨rfl, hB1, HFR.out⟩
        · have n3 : (c == -1) = false := by simp [d]
          have m3 := d; clear d
          have e : muxM F c x y = writeM F 2 [c, x, y] := by simp only [muxM, C1.out, Bool.not_true, Bool.false_eq_true, if_false]; rw [if_neg (by omega), if_neg (by omega)]
          rw [e]; clear e
          clear m1 m2 m3
          go_enter Tryd.func52, Tryd.ntmps52
          go_wp2_with (first | (go_at_call 49; refine (has_any bb F.vars _ _ _ [c, x, y] _ _ rfl (by simp) hc1 (by omega) (by omega) hrow1).mono ?_; rintro e w' ⟨rfl, rfl⟩; rw [C1.out]) | (go_at_call 50; refine (write_any bb 2 _ rfl (by omega) F [c, x, y] _ _ _ _ hB2 rfl rfl hrow2 C1.out).mono ?_; rintro e w' ⟨rfl, hB3, hfr3⟩))
          go_ret2
          exact ⟨rfl, hB3, HFR2.out.trans hfr3⟩
  · have e : muxM F c x y = (0, 3, F) := by simp [muxM, c1]
    rw [e]
    have c1' : hasAll F.vars [c, x, y] = false := by simpa using c1
    have C1 := hid c1'; clear c1 c1' e
    go_enter Tryd.func52, Tryd.ntmps52
    go_wp2_with (go_at_call 49; refine (has_any bb F.vars _ _ _ [c, x, y] _ _ rfl (by simp) hc1 (by omega) (by omega) hrow1).mono ?_; rintro e w' ⟨rfl, rfl⟩; rw [C1.out])
    go_ret2
    exact ⟨rfl, hB1, HFR.out⟩

end Go.Proofs.YtjcnhnifageikaaDoor
