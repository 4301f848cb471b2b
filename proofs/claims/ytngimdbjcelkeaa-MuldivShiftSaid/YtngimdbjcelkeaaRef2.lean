/-
  The walks of the reference of words of bits: Equal, Less, Any, Choose.
-/
import Derived.Test.YtngimdbjcelkeaaRef1
namespace Go.Proofs.Ytngimdbjcelkeaa
set_option linter.unusedSimpArgs false
set_option linter.unusedVariables false
open Go.RowKit

theorem take_eq_succ {xs ys : List Bool} {k : Nat} (h : k < xs.length) (h' : k < ys.length) (ht : xs.take k = ys.take k) (he : xs[k] = ys[k]) : xs.take (k + 1) = ys.take (k + 1) := by
  rw [List.take_succ_eq_append_getElem h, List.take_succ_eq_append_getElem h', ht, he]

set_option maxHeartbeats 3200000 in
theorem refequal_any (vx vy : Value) (xs ys : List Bool) (R R' : Nat → Prop) (w : World) (hR : ∀ k, R k → k < w.heap.size) (hR' : ∀ k, R' k → k < w.heap.size) (hx : Bools R w vx xs) (hy : Bools R' w vy ys) (hl : ys.length = xs.length) (hm : xs.length ≤ 4194304) :
    Calls Try.prog 45 #[vx, vy] w fun e w' => e = .returned (.bool (decide (xs = ys))) ∧ Below w.heap.size w w' := by
  obtain ⟨px, cx, rfl, _, _, _, hrx⟩ := hx.op
  obtain ⟨py, cy, rfl, _, _, _, hry⟩ := hy.op
  have HL := hid hl; have HR := hid hR; have HR' := hid hR'
  clear hl hR hR' hx hy
  go_enter Try.func45, Try.ntmps45
  go_wp2_with fail
  go_loopw [5] (fun i wr => ∃ (k : Nat), k ≤ xs.length ∧ i = .int .i64 k ∧ Hid (xs.take k = ys.take k) ∧ Below w.heap.size w wr) (fun i _ => xs.length - (intOf i).toNat)
  case atStart => exact ⟨0, Nat.zero_le _, rfl, hid rfl, Below.refl _ _⟩
  case round =>
    obtain ⟨k, hk, rfl, ht, hbel⟩ := hrel
    obtain ⟨wo, rfl⟩ : ∃ wo : World, wo = wr := ⟨_, rfl⟩
    by_cases hlt : k < xs.length
    · have hky : k < ys.length := by have := HL.out; omega
      obtain ⟨b1, o1, rfl, hR1, hcc1⟩ := hrx.atB k hlt
      obtain ⟨b2, o2, rfl, hR2, hcc2⟩ := hry.atB k hky
      have d1 := (hbel.cell (p := ⟨b1, o1 + k, none⟩) (HR.out b1 hR1)).trans (hcc1 k hlt)
      have d2 := (hbel.cell (p := ⟨b2, o2 + k, none⟩) (HR'.out b2 hR2)).trans (hcc2 k hky)
      have HS := hid (fun he : xs[k] = ys[k] => take_eq_succ hlt hky ht.out he)
      have HN := hid (fun (hne : xs[k] ≠ ys[k]) (e : xs = ys) => hne (by subst e; rfl))
      have HBE := hid hbel
      clear hbel hcc1 hcc2 ht
      generalize xs[k] = x at *
      generalize ys[k] = y at *
      cases x <;> cases y
      all_goals
        go_wp2_with fail
        go_quiet (fail)
        go_wp2_with fail
        first
        | (go_roundw
           case rel => exact ⟨k + 1, by omega, by go_num, hid (HS.out (by simp)), below_drewN HBE.out nq⟩
           case measure => simp [intOf]; omega)
        | (go_ret
           exact ⟨by rw [decide_eq_false (HN.out (by simp))]; rfl, below_drewN HBE.out nq⟩)
    · obtain rfl : k = xs.length := by omega
      have he : xs = ys := by
        have h := ht.out
        rw [List.take_of_length_le (Nat.le_refl _), List.take_of_length_le (by rw [HL.out]; exact Nat.le_refl _)] at h
        exact h
      have HE := hid he; have HBE := hid hbel
      clear he hbel ht
      go_wp2
      go_ret
      exact ⟨by rw [decide_eq_true HE.out]; rfl, HBE.out⟩

set_option maxHeartbeats 3200000 in
theorem refany_any (vx : Value) (xs : List Bool) (R : Nat → Prop) (w : World) (hR : ∀ k, R k → k < w.heap.size) (hx : Bools R w vx xs) (hm : xs.length ≤ 4194304) :
    Calls Try.prog 47 #[vx] w fun e w' => e = .returned (.bool (xs.any id)) ∧ w' = w := by
  obtain ⟨px, cx, rfl, _, _, _, hrx⟩ := hx.op
  clear hx
  go_enter Try.func47, Try.ntmps47
  go_wp2_with fail
  go_loopw [3] (fun i wr => ∃ (k : Nat), k ≤ xs.length ∧ i = .int .i64 k ∧ Hid ((xs.take k).any id = false) ∧ wr = w) (fun i _ => xs.length - (intOf i).toNat)
  case atStart => exact ⟨0, Nat.zero_le _, rfl, hid rfl, rfl⟩
  case round =>
    obtain ⟨k, hk, rfl, ht, rfl⟩ := hrel
    by_cases hlt : k < xs.length
    · obtain ⟨b1, o1, rfl, hR1, hcc1⟩ := hrx.atB k hlt
      have d1 := hcc1 k hlt
      have HS := hid (fun he : xs[k] = false => (show (xs.take (k + 1)).any id = false by rw [List.take_succ_eq_append_getElem hlt, List.any_append, ht.out, he]; rfl))
      have HN := hid (fun he : xs[k] = true => (show xs.any id = true from List.any_eq_true.2 ⟨xs[k], List.getElem_mem hlt, he⟩))
      clear hcc1 ht
      generalize xs[k] = x at *
      cases x
      · go_wp2
        go_roundw
        case rel => exact ⟨k + 1, by omega, by go_num, hid (HS.out (by simp)), by first | rfl | trivial⟩
        case measure => simp [intOf]; omega
      · go_wp2
        go_ret
        exact ⟨by rw [HN.out (by simp)]; rfl, rfl⟩
    · obtain rfl : k = xs.length := by omega
      have he : xs.any id = false := by
        have h := ht.out
        rw [List.take_of_length_le (Nat.le_refl _)] at h
        exact h
      have HE := hid he
      clear he ht
      go_wp2
      go_ret
      exact ⟨by rw [HE.out]; rfl, rfl⟩

set_option maxHeartbeats 3200000 in
theorem refless_any (vx vy : Value) (xs ys : List Bool) (sg : Bool) (R R' : Nat → Prop) (w : World) (hR : ∀ k, R k → k < w.heap.size) (hR' : ∀ k, R' k → k < w.heap.size) (hx : Bools R w vx xs) (hy : Bools R' w vy ys) (hl : ys.length = xs.length) (hm : xs.length ≤ 4194304) :
    Calls Try.prog 46 #[vx, vy, .bool sg] w fun e w' => e = .returned (.bool (lessS xs ys sg)) ∧ Below w.heap.size w w' := by
  obtain ⟨px, cx, rfl, _, _, _, hrx⟩ := hx.op
  obtain ⟨py, cy, rfl, _, _, _, hry⟩ := hy.op
  have HL := hid hl; have HR := hid hR; have HR' := hid hR'
  clear hl hR hR' hx hy
  go_enter Try.func46, Try.ntmps46
  go_wp2_with fail
  go_loopw [7] (fun i wr => ∃ (k : Nat), k ≤ xs.length ∧ i = .int .i64 ((k : Int) - 1) ∧ Hid (k < xs.length → lessS xs ys sg = lessB (xs.take k) (ys.take k) false) ∧ Below w.heap.size w wr) (fun i _ => (intOf i + 1).toNat)
  case atStart => exact ⟨xs.length, Nat.le_refl _, rfl, hid (fun h => absurd h (Nat.lt_irrefl _)), Below.refl _ _⟩
  case round =>
    obtain ⟨k, hk, rfl, ht, hbel⟩ := hrel
    obtain ⟨wo, rfl⟩ : ∃ wo : World, wo = wr := ⟨_, rfl⟩
    cases k with
    | succ k =>
      have hlt : k < xs.length := by omega
      have hky : k < ys.length := by have := HL.out; omega
      have ek : ((k + 1 : Nat) : Int) - 1 = (k : Int) := by omega
      rw [ek]
      obtain ⟨b1, o1, rfl, hR1, hcc1⟩ := hrx.atB k hlt
      obtain ⟨b2, o2, rfl, hR2, hcc2⟩ := hry.atB k hky
      have d1 := (hbel.cell (p := ⟨b1, o1 + k, none⟩) (HR.out b1 hR1)).trans (hcc1 k hlt)
      have d2 := (hbel.cell (p := ⟨b2, o2 + k, none⟩) (HR'.out b2 hR2)).trans (hcc2 k hky)
      have HT := hid (lessS_top xs ys sg HL.out.symm k hlt hky ht.out)
      have HBE := hid hbel
      by_cases hlast : k + 1 = xs.length
      · have ed : ((k : Int) == (xs.length : Int) - 1) = true := beq_iff_eq.2 (by omega)
        have HD := hid (decide_eq_true hlast)
        clear hbel hcc1 hcc2 ht
        generalize xs[k] = x at *
        generalize ys[k] = y at *
        cases x <;> cases y <;> cases sg
        all_goals
          go_wp2_with fail
          go_quiet (fail)
          go_wp2_with fail
          first
          | (go_ret
             exact ⟨by rw [HT.out.1 (by simp), HD.out]; rfl, below_drewN HBE.out nq⟩)
          | (go_roundw
             case rel => exact ⟨k, by omega, by first | rfl | trivial | go_num, hid (fun _ => HT.out.2 (by simp)), below_drewN HBE.out nq⟩
             case measure => simp [intOf]; try omega)
      · have ed : ((k : Int) == (xs.length : Int) - 1) = false := beq_eq_false_iff_ne.2 (by omega)
        have HD := hid (decide_eq_false hlast)
        clear hbel hcc1 hcc2 ht
        generalize xs[k] = x at *
        generalize ys[k] = y at *
        cases x <;> cases y <;> cases sg
        all_goals
          go_wp2_with fail
          go_quiet (fail)
          go_wp2_with fail
          first
          | (go_ret
             exact ⟨by rw [HT.out.1 (by simp), HD.out]; rfl, below_drewN HBE.out nq⟩)
          | (go_roundw
             case rel => exact ⟨k, by omega, by first | rfl | trivial | go_num, hid (fun _ => HT.out.2 (by simp)), below_drewN HBE.out nq⟩
             case measure => simp [intOf]; try omega)
    | zero =>
      have he : lessS xs ys sg = false := by
        by_cases h0 : 0 < xs.length
        · rw [ht.out h0]; rfl
        · have h1 : xs = [] := List.eq_nil_of_length_eq_zero (by omega)
          have h2 : ys = [] := List.eq_nil_of_length_eq_zero (by have := HL.out; omega)
          subst h1; subst h2; cases sg <;> rfl
      have HE := hid he; have HBE := hid hbel
      clear he hbel ht
      go_wp2
      go_ret
      exact ⟨by rw [HE.out]; rfl, HBE.out⟩

set_option maxHeartbeats 1600000 in
theorem refchoose_any (vx vy : Value) (xs ys : List Bool) (c : Bool) (R R' : Nat → Prop) (w : World) (hR : ∀ k, R k → k < w.heap.size) (hR' : ∀ k, R' k → k < w.heap.size) (hx : Bools R w vx xs) (hy : Bools R' w vy ys) (hl : ys.length = xs.length) (hm : xs.length ≤ 4194304) :
    Calls Try.prog 48 #[.bool c, vx, vy] w fun e w' => ∃ v, e = .returned v ∧ Bools (New w w') w' v (if c then xs else ys) ∧ Below w.heap.size w w' := by
  obtain ⟨px, cx, rfl, _, _, _, hrx⟩ := hx.op
  obtain ⟨py, cy, rfl, _, _, _, hry⟩ := hy.op
  have hnn : ∀ j : Nat, some j ≠ (Value.slice none 0 0).ownBlock := fun j e => by cases e
  clear hx hy
  cases c
  · go_enter Try.func48, Try.ntmps48
    go_wp2_with (at_builtin; refine wpList_app _ rfl (.const (.slice none 0 0)) (.tmp 10) 22 rfl w.heap.size 4 (.bool false) 1 Try.underlying22 info_bool rfl _ 0 [] rfl (World.ownsRow_nil _ _ _ _) py ys.length _ _ rfl (by rw [List.length_map]) hry (bools_one _) (by omega) (by unfold maxLen; omega) (Nat.le_refl _) ?_; intro v' w4 hown4 hg4 _; have HO4 := hid hown4; have HG4 := hid hg4; clear hown4 hg4)
    go_ret
    have h1 := HO4.out
    rw [List.nil_append, Nat.zero_add] at h1
    exact ⟨_, rfl, bnew h1 (by omega) (Nat.le_refl _), ⟨HG4.out.os, HG4.out.tape, HG4.out.output, HG4.out.size, fun j hj => HG4.out.block j hj (hnn _)⟩⟩
  · go_enter Try.func48, Try.ntmps48
    go_wp2_with (at_builtin; refine wpList_app _ rfl (.const (.slice none 0 0)) (.tmp 8) 22 rfl w.heap.size 4 (.bool false) 1 Try.underlying22 info_bool rfl _ 0 [] rfl (World.ownsRow_nil _ _ _ _) px xs.length _ _ rfl (by rw [List.length_map]) hrx (bools_one _) (by omega) (by unfold maxLen; omega) (Nat.le_refl _) ?_; intro v' w4 hown4 hg4 _; have HO4 := hid hown4; have HG4 := hid hg4; clear hown4 hg4)
    go_ret
    have h1 := HO4.out
    rw [List.nil_append, Nat.zero_add] at h1
    exact ⟨_, rfl, bnew h1 (by omega) (Nat.le_refl _), ⟨HG4.out.os, HG4.out.tape, HG4.out.output, HG4.out.size, fun j hj => HG4.out.block j hj (hnn _)⟩⟩
end Go.Proofs.Ytngimdbjcelkeaa
