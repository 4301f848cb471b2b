/-
  What Shift refuses.
-/
import Derived.Test.YtjcnhnifageikaaDoorShL2
namespace Go.Proofs.YtjcnhnifageikaaDoor
set_option linter.unusedSimpArgs false
set_option linter.unusedVariables false
open Go.RowKit Go.Shelf
attribute [local go_sem] Oper.semAt_some

set_option maxRecDepth 100000 in
set_option maxHeartbeats 400000 in
theorem shno_op (bb : Nat) (px py : Option Addr) (cx cy : Nat) (w : World) : Calls Tryd.prog 11 #[.pointer (some ⟨bb, 0, none⟩), .int .u8 4, .slice px 1 cx, .slice py 1 cy] w fun e w' => e = .returned (.tuple #[.slice none 0 0, .int .i64 2]) ∧ w = w' := by
  go_enter Tryd.func11, Tryd.ntmps11
  go_wp2_with fail
  go_ret2
  exact ⟨rfl, rfl⟩

set_option maxRecDepth 100000 in
set_option maxHeartbeats 400000 in
theorem shno_32 (bb : Nat) (px py : Option Addr) (cx cy : Nat) (w : World) : Calls Tryd.prog 11 #[.pointer (some ⟨bb, 0, none⟩), .int .u8 12, .slice px 3 cx, .slice py 2 cy] w fun e w' => e = .returned (.tuple #[.slice none 0 0, .int .i64 2]) ∧ w = w' := by
  go_enter Tryd.func11, Tryd.ntmps11
  go_wp2_with fail
  go_ret2
  exact ⟨rfl, rfl⟩

set_option maxRecDepth 100000 in
set_option maxHeartbeats 400000 in
theorem shno_0 (bb : Nat) (w : World) : Calls Tryd.prog 11 #[.pointer (some ⟨bb, 0, none⟩), .int .u8 14, .slice none 0 0, .slice none 0 0] w fun e w' => e = .returned (.tuple #[.slice none 0 0, .int .i64 2]) ∧ w = w' := by
  go_enter Tryd.func11, Tryd.ntmps11
  go_wp2_with fail
  go_ret2
  exact ⟨rfl, rfl⟩

set_option maxRecDepth 100000 in
set_option maxHeartbeats 400000 in
theorem shno_65 (bb : Nat) (px py : Option Addr) (cx cy : Nat) (w : World) : Calls Tryd.prog 11 #[.pointer (some ⟨bb, 0, none⟩), .int .u8 14, .slice px 65 cx, .slice py 65 cy] w fun e w' => e = .returned (.tuple #[.slice none 0 0, .int .i64 2]) ∧ w = w' := by
  go_enter Tryd.func11, Tryd.ntmps11
  go_wp2_with fail
  go_ret2
  exact ⟨rfl, rfl⟩

set_option maxRecDepth 100000 in
set_option maxHeartbeats 400000 in
theorem shno_nil (w : World) : Calls Tryd.prog 11 #[.pointer none, .int .u8 99, .slice none 0 0, .slice none 0 0] w fun e w' => e = .returned (.tuple #[.slice none 0 0, .int .i64 1]) ∧ w = w' := by
  go_enter Tryd.func11, Tryd.ntmps11
  go_wp2_with fail
  go_ret2
  exact ⟨rfl, rfl⟩

theorem and_badS (bb : Nat) (F : Form) (x : Int) (w : World) (hB : IsB w bb F) (hx : okLit F.vars x = false) (hb : -9223372036854775807 ≤ x ∧ x ≤ 9223372036854775807) :
    Calls Tryd.prog 29 #[.pointer (some ⟨bb, 0, none⟩), .int .i64 x, .int .i64 x] w fun e w' => ∃ v, e = .returned (.tuple #[v, .int .i64 3]) ∧ IsB w' bb F ∧ FrB bb w w' := by
  have e : andM F x x = (0, 3, F) := by unfold andM; simp [hasAll, hx]
  have := and_any bb F x x w hB hb hb
  rw [e] at this
  exact this.mono fun e w' h => ⟨_, h⟩

set_option maxRecDepth 100000 in
set_option maxHeartbeats 1600000 in
theorem shno_lit (bb : Nat) (F : Form) (x y : Int) (vx vy : Value) (w : World) (hB : IsB w bb F) (hx : Ints (Away bb w) w vx [x]) (hy : Ints (Away bb w) w vy [y])
    (hbx : -9223372036854775807 ≤ x ∧ x ≤ 9223372036854775807) (hby : -9223372036854775807 ≤ y ∧ y ≤ 9223372036854775807) (hbad : okLit F.vars x = false ∨ okLit F.vars y = false) :
    Calls Tryd.prog 11 #[.pointer (some ⟨bb, 0, none⟩), .int .u8 12, vx, vy] w fun e w' => e = .returned (.tuple #[.slice none 0 0, .int .i64 3]) ∧ IsB w' bb F ∧ FrB bb w w' := by
  obtain ⟨px, cx, rfl, _, _, hrx⟩ := hx.opn (n := 1) rfl
  obtain ⟨py, cy, rfl, _, _, hry⟩ := hy.opn (n := 1) rfl
  have hb1 : Below w.heap.size w (w.alloc (.cells #[.slice px 1 cx, .slice py 1 cy] 23)) := (Below.refl _ _).alloc (Nat.le_refl _) _
  have hf1 := FrB.of_below hB hb1
  have hB1 := hB.below hb1
  have ha1 := hB.away_new hb1 (k := w.heap.size) (Nat.le_refl _) (by simp)
  have hc1 : (w.alloc (.cells #[.slice px 1 cx, .slice py 1 cy] 23)).heap[w.heap.size]? = some (.cells #[.slice px 1 cx, .slice py 1 cy] 23 (0, 0)) := by rw [heap_al, if_pos rfl]
  have HBAD := hid hbad; have HBX := hid hbx; have HBY := hid hby
  have HRX := hid (hrx.fr hf1); have HRY := hid (hry.fr hf1)
  have HB1 := hid hB1; have HA1 := hid ha1; have HC1 := hid hc1; have HF1 := hid hf1
  clear hbad hbx hby hx hy hrx hry hB1 ha1 hc1 hf1 hb1 hB
  go_enter Tryd.func11, Tryd.ntmps11
  go_wp2_with fail
  generalize hw1 : World.alloc w _ = w1 at *
  clear hw1
  go_loopw [56, 8, 9] (fun i u v wr => ∃ j : Nat, j ≤ 2 ∧ i = .int .i64 j ∧ u = .slice none 0 0 ∧ v = .int .i64 0 ∧ (1 ≤ j → okLit F.vars x = true) ∧ (2 ≤ j → okLit F.vars y = true) ∧ IsB wr bb F ∧ FrB bb w1 wr) (fun i _ _ _ => 2 - (intOf i).toNat)
  case atStart => exact ⟨0, by omega, rfl, rfl, rfl, (fun h => by omega), (fun h => by omega), HB1.out, Fr.refl _ _⟩
  case round =>
    obtain ⟨j, hj, rfl, rfl, rfl, ho1, ho2, hBw, hfw⟩ := hrel
    obtain ⟨wo, rfl⟩ : ∃ wo : World, wo = wr := ⟨_, rfl⟩
    by_cases hlt : j < 2
    · have hjd : decide ((j : Int) < 2) = true := by simp; omega
      obtain ⟨pz, cz, z, hcell, hrz, hzb, hzo⟩ : ∃ (pz : Option Addr) (cz : Nat) (z : Int), wo.cell? ⟨w.heap.size, j, none⟩ = some (.slice pz 1 cz) ∧ RowR (Away bb wo) wo pz ([z].map (Value.int .i64)) ∧ (-9223372036854775807 ≤ z ∧ z ≤ 9223372036854775807) ∧ ((j = 0 ∧ z = x) ∨ (j = 1 ∧ z = y)) := by
        have hcw := (hfw.keep _ HA1.out).2.trans HC1.out
        have : j = 0 ∨ j = 1 := by omega
        rcases this with rfl | rfl
        · exact ⟨px, cx, x, by rw [cell_of_cells hcw]; rfl, HRX.out.fr hfw, HBX.out, .inl ⟨rfl, rfl⟩⟩
        · exact ⟨py, cy, y, by rw [cell_of_cells hcw]; rfl, HRY.out.fr hfw, HBY.out, .inr ⟨rfl, rfl⟩⟩
      have HZO := hid hzo; have HZB := hid hzb; have HBW := hid hBw; have HFW := hid hfw; have HRZ := hid hrz
      have HO := hid (And.intro ho1 ho2)
      clear hzo hzb hBw hfw hrz ho1 ho2
      go_wp2_with fail
      go_loopw [62, 8, 9] (fun i u v wr => ∃ k : Nat, k ≤ 1 ∧ i = .int .i64 k ∧ u = .slice none 0 0 ∧ v = .int .i64 0 ∧ (1 ≤ k → okLit F.vars z = true) ∧ IsB wr bb F ∧ FrB bb wo wr) (fun i _ _ _ => 1 - (intOf i).toNat)
      case atStart => exact ⟨0, by omega, rfl, rfl, rfl, (fun h => by omega), HBW.out, Fr.refl _ _⟩
      case round =>
        obtain ⟨k, hk, rfl, rfl, rfl, hok, hBk, hfk⟩ := hrel
        obtain ⟨wp, rfl⟩ : ∃ wp : World, wp = wr := ⟨_, rfl⟩
        by_cases hlk : k < 1
        · have hkz : k < [z].length := by simp; omega
          obtain ⟨b1, o1, rfl, hR1, hcc⟩ := (HRZ.out.fr hfk).atI k hkz
          have hck := hcc k hkz
          have hz0 : [z][k]'hkz = z := by
            have : k = 0 := by omega
            subst this; rfl
          rw [hz0] at hck
          clear hz0
          have HFK := hid hfk
          have HBK := hid hBk
          clear hcc hBk hfk hR1 hok
          cases hz : okLit F.vars z with
          | true =>
            have HC := hid (and_self_any bb F z wp HBK.out hz)
            have HZ := hid hz
            clear hz
            go_wp2_with (go_at_call 29; refine HC.out.mono ?_; rintro e w5 ⟨rfl, hB5, hf5⟩; have HB5 := hid hB5; have HF5 := hid hf5; clear hB5 hf5)
            go_roundw
            case rel => exact ⟨k + 1, by omega, by go_num, rfl, rfl, (fun _ => by simp), HB5.out, HFK.out.trans HF5.out⟩
            case measure => (simp [intOf] <;> omega)
          | false =>
            have HC := hid (and_badS bb F z wp HBK.out hz HZB.out)
            clear hz
            go_wp2_with (go_at_call 29; refine HC.out.mono ?_; rintro e w5 ⟨v5, rfl, hB5, hf5⟩; have HB5 := hid hB5; have HF5 := hid hf5; clear hB5 hf5)
            go_ret2
            exact ⟨rfl, HB5.out, ((HF1.out.trans HFW.out).trans HFK.out).trans HF5.out⟩
        · obtain rfl : k = 1 := by omega
          have HBK := hid hBk; have HFK := hid hfk; have HOK := hid (hok (by omega))
          clear hBk hfk hok
          go_wp2
          go_roundw
          case rel =>
            refine ⟨j + 1, by omega, by go_num, rfl, rfl, fun h => ?_, fun h => ?_, HBK.out, HFW.out.trans HFK.out⟩
            · rcases HZO.out with ⟨h0, rfl⟩ | ⟨h0, rfl⟩
              · exact HOK.out
              · exact HO.out.1 (by omega)
            · rcases HZO.out with ⟨h0, rfl⟩ | ⟨h0, rfl⟩
              · omega
              · exact HOK.out
          case measure => (simp [intOf] <;> omega)
    · obtain rfl : j = 2 := by omega
      exfalso
      rcases HBAD.out with h | h
      · rw [ho1 (by omega)] at h; cases h
      · rw [ho2 (by omega)] at h; cases h

end Go.Proofs.YtjcnhnifageikaaDoor
