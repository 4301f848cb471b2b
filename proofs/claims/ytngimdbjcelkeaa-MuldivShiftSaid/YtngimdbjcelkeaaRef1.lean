/-
  The walks of the reference of words of bits: Add, Not, Sub, Equal, Less, Any, Choose.
-/
import Derived.Test.YtngimdbjcelkeaaLaw3
import Derived.Test.YtngimdbjcelkeaaVal
namespace Go.Proofs.Ytngimdbjcelkeaa
set_option linter.unusedSimpArgs false
set_option linter.unusedVariables false
open Go.RowKit

def carB : List Bool → List Bool → Bool → Nat → Bool
  | x :: xs, y :: ys, c, k + 1 => carB xs ys (if x != y then c else x) k
  | _, _, c, _ => c
theorem carB_zero (xs ys : List Bool) (c : Bool) : carB xs ys c 0 = c := by
  cases xs <;> cases ys <;> rfl
theorem addB_get : ∀ (xs ys : List Bool) (c : Bool) (k : Nat) (h : k < xs.length) (h' : k < ys.length), (addB xs ys c)[k]? = some ((xs[k] != ys[k]) != carB xs ys c k) ∧ carB xs ys c (k + 1) = if xs[k] != ys[k] then carB xs ys c k else xs[k]
  | [], _, _, _, h, _ => by simp at h
  | _ :: _, [], _, _, _, h => by simp at h
  | x :: xs, y :: ys, c, 0, _, _ => by simp [addB, carB, carB_zero]
  | x :: xs, y :: ys, c, k + 1, h, h' => by
    have := addB_get xs ys (if x != y then c else x) k (by simpa using h) (by simpa using h')
    simp only [addB, carB, List.getElem_cons_succ, List.getElem?_cons_succ]
    exact this

theorem bnew {w w' : World} {v : Value} {n : Nat} {xs : List Bool} {B : Nat} (h : w'.ownsRow B 4 1 v n (xs.map Value.bool)) (hn : n ≤ 140737488355328) (hB : w.heap.size ≤ B) : Bools (New w w') w' v xs :=
  Sl.of_owns h hn (fun j hj => ⟨Nat.le_trans hB (h.lt j hj).1, (h.lt j hj).2⟩)

set_option maxHeartbeats 3200000 in
theorem refadd_any (vx vy : Value) (xs ys : List Bool) (c : Bool) (R R' : Nat → Prop) (w : World) (hR : ∀ k, R k → k < w.heap.size) (hR' : ∀ k, R' k → k < w.heap.size) (hx : Bools R w vx xs) (hy : Bools R' w vy ys) (hl : ys.length = xs.length) (hm : xs.length ≤ 4194304) :
    Calls Try.prog 28 #[vx, vy, .bool c] w fun e w' => ∃ v, e = .returned v ∧ w'.ownsRow w.heap.size 4 1 v xs.length ((addB xs ys c).map Value.bool) ∧ Below w.heap.size w w' := by
  obtain ⟨px, cx, rfl, _, _, _, hrx⟩ := hx.op
  obtain ⟨py, cy, rfl, _, _, _, hry⟩ := hy.op
  have HL := hid hl; have HR := hid hR; have HR' := hid hR'
  have hal : (addB xs ys c).length = xs.length := addB_len xs ys c hl.symm
  have HAL := hid hal
  have hg := fun k h h' => addB_get xs ys c k h h'
  have HG := hid hg
  have HZ := hid (carB_zero xs ys c)
  clear hl hR hR' hal hg hx hy
  go_enter Try.func28, Try.ntmps28
  go_wp2_with fail
  go_loopw [7, 8, 2] (fun v i cv wr => ∃ (k : Nat), k ≤ xs.length ∧ i = .int .i64 k ∧ cv = .bool (carB xs ys c k) ∧ wr.ownsRow w.heap.size 4 1 v k (((addB xs ys c).take k).map Value.bool) ∧ Below w.heap.size w wr) (fun _ i _ _ => xs.length - (intOf i).toNat)
  case atStart => exact ⟨0, Nat.zero_le _, rfl, by rw [HZ.out], World.ownsRow_nil _ _ _ _, Below.refl _ _⟩
  case round =>
    obtain ⟨k, hk, rfl, rfl, hown, hbel⟩ := hrel
    obtain ⟨wo, rfl⟩ : ∃ wo : World, wo = wr := ⟨_, rfl⟩
    obtain ⟨po, co, rfl⟩ := own_slice hown
    by_cases hlt : k < xs.length
    · have hky : k < ys.length := by have := HL.out; omega
      obtain ⟨b1, o1, rfl, hR1, hcc1⟩ := hrx.atB k hlt
      obtain ⟨b2, o2, rfl, hR2, hcc2⟩ := hry.atB k hky
      have d1 := (hbel.cell (p := ⟨b1, o1 + k, none⟩) (HR.out b1 hR1)).trans (hcc1 k hlt)
      have d2 := (hbel.cell (p := ⟨b2, o2 + k, none⟩) (HR'.out b2 hR2)).trans (hcc2 k hky)
      obtain ⟨g1, g2⟩ := HG.out k hlt hky
      have hsn : (addB xs ys c).take (k + 1) = (addB xs ys c).take k ++ [(xs[k] != ys[k]) != carB xs ys c k] := by
        rw [List.take_add_one, g1]; rfl
      have HSN := hid hsn; have HG2 := hid g2; have HBE := hid hbel; have HO := hid hown
      have hws := hbel.size
      have hib : ∀ (w0 : World) (x y z : Bool), (Instr.index 135 (.agg #[.bool x, .bool y, .bool z]) (.int .i64 0)).run Try.prog w0 = .ok (.bool x) w0 := fun _ _ _ _ => by kernel_rfl
      have hib1 : ∀ (w0 : World) (x y z : Bool), (Instr.index 135 (.agg #[.bool x, .bool y, .bool z]) (.int .i64 1)).run Try.prog w0 = .ok (.bool y) w0 := fun _ _ _ _ => by kernel_rfl
      have hib2 : ∀ (w0 : World) (x y z : Bool), (Instr.index 135 (.agg #[.bool x, .bool y, .bool z]) (.int .i64 2)).run Try.prog w0 = .ok (.bool z) w0 := fun _ _ _ _ => by kernel_rfl
      clear hown hbel hsn g1 g2 hcc1 hcc2
      generalize xs[k] = x at *
      generalize ys[k] = y at *
      generalize carB xs ys c k = cc at *
      go_wp2_with fail
      go_quiet (fail)
      go_wp2_with fail
      go_loopw [9, 28] (fun nv iv wr => ∃ (j : Nat), j ≤ 3 ∧ iv = .int .i64 j ∧ nv = .int .i64 (([x, y, cc].take j).countP id : Nat) ∧ wr = wo.drewN nq) (fun _ iv _ => 3 - (intOf iv).toNat)
      case atStart => exact ⟨0, by omega, rfl, rfl, rfl⟩
      case round =>
        obtain ⟨j, hj, rfl, rfl, rfl⟩ := hrel
        have hj4 : j = 0 ∨ j = 1 ∨ j = 2 ∨ j = 3 := by omega
        rcases hj4 with rfl | rfl | rfl | rfl
        · cases x
          · go_wp2
            go_roundw
            case rel => exact ⟨1, by omega, rfl, rfl, by first | rfl | trivial⟩
            case measure => simp [intOf]
          · go_wp2
            go_roundw
            case rel => exact ⟨1, by omega, rfl, rfl, by first | rfl | trivial⟩
            case measure => simp [intOf]
        · cases x <;> cases y
          all_goals
            go_wp2
            go_roundw
            case rel => exact ⟨2, by omega, rfl, rfl, by first | rfl | trivial⟩
            case measure => simp [intOf]
        · cases x <;> cases y <;> cases cc
          all_goals
            go_wp2
            go_roundw
            case rel => exact ⟨3, by omega, rfl, rfl, by first | rfl | trivial⟩
            case measure => simp [intOf]
        · cases x <;> cases y <;> cases cc
          all_goals
            go_wp2_with (at_builtin; refine wpList_app _ rfl (.tmp 35) (.tmp 39) 22 rfl w.heap.size 4 (.bool false) 1 Try.underlying22 info_bool rfl _ k _ rfl ((owns_keep HO.out (w' := wo.drewN nq) (fun _ _ => rfl)).alloc _) (some ⟨wo.heap.size, 0, none⟩) 1 1 _ rfl rfl (RowR.one _ _ _) (by intro u hu; simp at hu; subst hu; rfl) (by omega) (by unfold maxLen; omega) (by rw [World.size_alloc]; show _ ≤ wo.heap.size + 1; omega) ?_; intro v' w4 hown4 hg4 _; have HO4 := hid hown4; have HG4 := hid hg4; clear hown4 hg4)
            go_roundw
            case rel => exact ⟨k + 1, by omega, by go_num, by rw [HG2.out]; rfl, by rw [HSN.out, List.map_append]; exact HO4.out, below_one (below_drewN HBE.out nq) (by exact hws) HG4.out (fun j hj => (HO.out.lt _ hj).1)⟩
            case measure => simp [intOf]; omega
    · obtain rfl : k = xs.length := by omega
      have HBE := hid hbel; have HO := hid hown
      clear hown hbel
      go_wp2
      go_ret
      have h1 := HO.out
      rw [List.take_of_length_le (by rw [HAL.out]; exact Nat.le_refl _)] at h1
      exact ⟨_, rfl, h1, HBE.out⟩

set_option maxHeartbeats 1600000 in
theorem refnot_own (vx : Value) (xs : List Bool) (R : Nat → Prop) (w : World) (hR : ∀ k, R k → k < w.heap.size) (hx : Bools R w vx xs) (hm : xs.length ≤ 4194304) :
    Calls Try.prog 94 #[vx] w fun e w' => ∃ v, e = .returned v ∧ w'.ownsRow w.heap.size 4 1 v xs.length ((xs.map (!·)).map Value.bool) ∧ Below w.heap.size w w' := by
  obtain ⟨px, cx, rfl, _, _, _, hrx⟩ := hx.op
  have HR := hid hR
  clear hR hx
  go_enter Try.func94, Try.ntmps94
  go_wp2_with fail
  go_loopw [3, 4] (fun v i wr => ∃ (k : Nat), k ≤ xs.length ∧ i = .int .i64 k ∧ wr.ownsRow w.heap.size 4 1 v k (((xs.map (!·)).take k).map Value.bool) ∧ Below w.heap.size w wr) (fun _ i _ => xs.length - (intOf i).toNat)
  case atStart => exact ⟨0, Nat.zero_le _, rfl, World.ownsRow_nil _ _ _ _, Below.refl _ _⟩
  case round =>
    obtain ⟨k, hk, rfl, hown, hbel⟩ := hrel
    obtain ⟨wo, rfl⟩ : ∃ wo : World, wo = wr := ⟨_, rfl⟩
    obtain ⟨po, co, rfl⟩ := own_slice hown
    by_cases hlt : k < xs.length
    · obtain ⟨b1, o1, rfl, hR1, hcc1⟩ := hrx.atB k hlt
      have d1 := (hbel.cell (p := ⟨b1, o1 + k, none⟩) (HR.out b1 hR1)).trans (hcc1 k hlt)
      have hsn : (xs.map (!·)).take (k + 1) = (xs.map (!·)).take k ++ [!xs[k]] := by
        rw [List.take_succ_eq_append_getElem (by simpa using hlt)]; simp
      have HSN := hid hsn; have HBE := hid hbel; have HO := hid hown
      have hws := hbel.size
      clear hown hbel hsn hcc1
      generalize xs[k] = x at *
      go_wp2_with (at_builtin; refine wpList_app _ rfl (.tmp 11) (.tmp 17) 22 rfl w.heap.size 4 (.bool false) 1 Try.underlying22 info_bool rfl _ k _ rfl (HO.out.alloc _) (some ⟨wo.heap.size, 0, none⟩) 1 1 [.bool (!x)] rfl rfl (RowR.one _ _ _) (by simp [Value.oneCell']) (by omega) (by unfold maxLen; omega) (by rw [World.size_alloc]; omega) ?_; intro v' w4 hown4 hg4 _; have HO4 := hid hown4; have HG4 := hid hg4; clear hown4 hg4)
      go_roundw
      case rel => exact ⟨k + 1, by omega, by go_num, by rw [HSN.out, List.map_append]; exact HO4.out, below_one HBE.out hws HG4.out (fun j hj => (HO.out.lt _ hj).1)⟩
      case measure => simp [intOf]; omega
    · obtain rfl : k = xs.length := by omega
      have HBE := hid hbel; have HO := hid hown
      clear hown hbel
      go_wp2
      go_ret
      refine ⟨_, rfl, ?_, HBE.out⟩
      have h1 := HO.out
      rw [List.take_of_length_le (by simp)] at h1
      exact h1

theorem refnot_any (vx : Value) (xs : List Bool) (R : Nat → Prop) (w : World) (hR : ∀ k, R k → k < w.heap.size) (hx : Bools R w vx xs) (hm : xs.length ≤ 4194304) :
    Calls Try.prog 94 #[vx] w fun e w' => ∃ v, e = .returned v ∧ Bools (New w w') w' v (xs.map (!·)) ∧ Below w.heap.size w w' :=
  (refnot_own vx xs R w hR hx hm).mono fun e w' ⟨v, he, ho, hb⟩ => ⟨v, he, bnew ho (by omega) (Nat.le_refl _), hb⟩

set_option maxHeartbeats 800000 in
theorem refsub_any (vx vy : Value) (xs ys : List Bool) (R R' : Nat → Prop) (w : World) (hR : ∀ k, R k → k < w.heap.size) (hR' : ∀ k, R' k → k < w.heap.size) (hx : Bools R w vx xs) (hy : Bools R' w vy ys) (hl : ys.length = xs.length) (hm : xs.length ≤ 4194304) :
    Calls Try.prog 29 #[vx, vy] w fun e w' => ∃ v, e = .returned v ∧ Bools (New w w') w' v (addB xs (ys.map (!·)) true) ∧ Below w.heap.size w w' := by
  have hn := refnot_any vy ys R' w hR' hy (by omega)
  have ha : ∀ w1 v, Below w.heap.size w w1 → Bools (New w w1) w1 v (ys.map (!·)) → Calls Try.prog 28 #[vx, v, .bool true] w1 fun e w' => ∃ v, e = .returned v ∧ Bools (New w w') w' v (addB xs (ys.map (!·)) true) ∧ Below w.heap.size w w' := fun w1 v hb hv =>
    (refadd_any vx v xs (ys.map (!·)) true R (New w w1) w1 (fun k hk => by have := hR k hk; have := hb.size; omega) (fun k hk => hk.2) (hx.keep fun k hk => ⟨hk, hb.block k (hR k hk)⟩) hv (by simpa using hl) hm).mono
      fun e w2 ⟨u, he, h1, h2⟩ => ⟨u, he, bnew h1 (by omega) hb.size, below_tr hb h2⟩
  obtain ⟨px, cx, rfl, _, _, _, _⟩ := hx.op
  obtain ⟨py, cy, rfl, _, _, _, _⟩ := hy.op
  have HN := hid hn; have HA := hid ha
  clear hn ha hx hy hR hR' hl
  go_enter Try.func29, Try.ntmps29
  go_wp2_with (first
    | (go_at_call 94; refine HN.out.mono ?_; rintro e w1 ⟨v, rfl, h1, hb1⟩; have H1 := hid h1; have HB1 := hid hb1; clear h1 hb1)
    | (go_at_call 28; refine (HA.out _ _ HB1.out H1.out).mono ?_; rintro e w2 ⟨u, rfl, h2, hb2⟩))
  go_ret
  exact ⟨_, rfl, h2, hb2⟩

end Go.Proofs.Ytngimdbjcelkeaa
