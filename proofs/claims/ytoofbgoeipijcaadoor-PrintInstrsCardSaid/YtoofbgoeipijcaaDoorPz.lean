/-
  The kit: EqualArgs, EqualInstr.
-/
import Derived.Test.YtoofbgoeipijcaaDoorPy
import Derived.Deep.DeepCutAuto
namespace Go.Proofs.YtoofbgoeipijcaaDoor
set_option linter.unusedSimpArgs false
set_option linter.unusedVariables false
open Go.RowKit Go.Shelf
attribute [local go_sem] Oper.semAt_some

theorem below_drewN (w : World) (n : Nat) : Below w.heap.size w (w.drewN n) := ⟨rfl, rfl, rfl, Nat.le_refl _, fun _ _ => rfl⟩
set_option maxRecDepth 100000 in
set_option maxHeartbeats 4000000 in
/-- Operands are equal where both lists read the same. -/
theorem eqargs_same (l : List Ag) (va vb : Value) (R R' : Nat → Prop) (w : World) (ha : SlG kAg R w va l) (hb : SlG kAg R' w vb l) :
    Calls Tryd.prog 25 #[va, vb] w fun e w' => e = .returned (.bool true) ∧ ∃ n, w.drewN n = w' := by
  obtain ⟨pa, ca, rfl⟩ := ha.slc
  obtain ⟨pb, cb, rfl⟩ := hb.slc
  have HA := hid ha; have HB := hid hb
  clear ha hb
  go_enter Tryd.func25, Tryd.ntmps25
  go_wp2
  go_loopw [4, 5] (fun rv iv wr => ∃ (k n : Nat), k ≤ l.length ∧ rv = .bool false ∧ iv = .int .i64 k ∧ wr = w.drewN n) (fun _ iv _ => l.length - (intOf iv).toNat)
  case atStart => exact ⟨0, 0, Nat.zero_le _, rfl, rfl, rfl⟩
  case round =>
    obtain ⟨k, n, hk, rfl, rfl, rfl⟩ := hrel
    by_cases hlt : k < l.length
    · obtain ⟨b1, o1, rfl, hR1, hc1⟩ := ag_at HA.out (by omega : 0 < l.length)
      obtain ⟨b2, o2, rfl, hR2, hc2⟩ := ag_at HB.out (by omega : 0 < l.length)
      obtain ⟨c0, c1⟩ := hc1 k hlt
      obtain ⟨d0, d1⟩ := hc2 k hlt
      have HLT := hid hlt
      clear hc1 hc2
      generalize l[k] = x at *
      clear hlt
      have hlt := HLT.out
      go_wp2_with fail
      go_quiet (fail)
      go_wp2
      go_roundw
      case rel => exact ⟨k + 1, n + nq, HLT.out, by first | rfl | trivial, by rw [wrap_next HLT.out HA.out.len], by first | rfl | rw [World.drewN_drewN]⟩
      case measure => exact meas_next HLT.out HA.out.len
    · obtain rfl : k = l.length := by omega
      clear hlt
      go_wp2
      go_ret
      exact ⟨rfl, n, rfl⟩
set_option maxRecDepth 100000 in
set_option maxHeartbeats 4000000 in
/-- Instructions are equal where both read the same. -/
theorem eqinstr_same (x : In) (va vb : Value) (w : World) (ha : SlG kAg (· < w.heap.size) w va x.args) (hb : SlG kAg (· < w.heap.size) w vb x.args) :
    Calls Tryd.prog 10 #[.agg #[.int .u8 (x.kind : Int), .int .u8 (x.op : Int), .string ⟨x.dst.toArray⟩, .string ⟨x.nm.toArray⟩, va, .int .i64 x.pos.1, .int .i64 x.pos.2], .agg #[.int .u8 (x.kind : Int), .int .u8 (x.op : Int), .string ⟨x.dst.toArray⟩, .string ⟨x.nm.toArray⟩, vb, .int .i64 x.pos.1, .int .i64 x.pos.2]] w fun e w' => e = .returned (.bool true) ∧ Below w.heap.size w w' := by
  obtain ⟨pa, ca, rfl⟩ := ha.slc
  obtain ⟨pb, cb, rfl⟩ := hb.slc
  have HA := hid ha; have HB := hid hb
  clear ha hb
  go_enter Tryd.func10, Tryd.ntmps10
  go_upto_region 1 with fail
  obtain ⟨w2, hw2⟩ : ∃ W, (w.alloc (.cells #[.int .u8 (x.kind : Int), .int .u8 (x.op : Int), .string ⟨x.dst.toArray⟩, .string ⟨x.nm.toArray⟩, .slice pa x.args.length ca, .int .i64 x.pos.1, .int .i64 x.pos.2] 26)).alloc (.cells #[.int .u8 (x.kind : Int), .int .u8 (x.op : Int), .string ⟨x.dst.toArray⟩, .string ⟨x.nm.toArray⟩, .slice pb x.args.length cb, .int .i64 x.pos.1, .int .i64 x.pos.2] 26) = W := ⟨_, rfl⟩
  have HB2 := hid (show Below w.heap.size w w2 from by rw [← hw2]; exact ((Below.refl _ _).alloc (Nat.le_refl _) _).alloc (by rw [World.size_alloc]; omega) _)
  have HX := hid (show BxL 26 w.heap.size [.int .u8 (x.kind : Int), .int .u8 (x.op : Int), .string ⟨x.dst.toArray⟩, .string ⟨x.nm.toArray⟩, .slice pa x.args.length ca, .int .i64 x.pos.1, .int .i64 x.pos.2] w2 from by rw [← hw2]; exact (BxL.new _ _ _).al _)
  have HY := hid (show BxL 26 (w.heap.size + 1) [.int .u8 (x.kind : Int), .int .u8 (x.op : Int), .string ⟨x.dst.toArray⟩, .string ⟨x.nm.toArray⟩, .slice pb x.args.length cb, .int .i64 x.pos.1, .int .i64 x.pos.2] w2 from by rw [← hw2]; have := BxL.new 26 (w.alloc (.cells #[.int .u8 (x.kind : Int), .int .u8 (x.op : Int), .string ⟨x.dst.toArray⟩, .string ⟨x.nm.toArray⟩, .slice pa x.args.length ca, .int .i64 x.pos.1, .int .i64 x.pos.2] 26)) [.int .u8 (x.kind : Int), .int .u8 (x.op : Int), .string ⟨x.dst.toArray⟩, .string ⟨x.nm.toArray⟩, .slice pb x.args.length cb, .int .i64 x.pos.1, .int .i64 x.pos.2]; rw [World.size_alloc] at this; exact this)
  rw [hw2]
  clear hw2
  have c0 : ∀ m, (w2.drewN m).cell? ⟨w.heap.size, 0, none⟩ = some (.int .u8 (x.kind : Int)) := fun m => HX.out.at 0 rfl
  have c1 : ∀ m, (w2.drewN m).cell? ⟨w.heap.size, 1, none⟩ = some (.int .u8 (x.op : Int)) := fun m => HX.out.at 1 rfl
  have c2 : ∀ m, (w2.drewN m).cell? ⟨w.heap.size, 2, none⟩ = some (.string ⟨x.dst.toArray⟩) := fun m => HX.out.at 2 rfl
  have c3 : ∀ m, (w2.drewN m).cell? ⟨w.heap.size, 3, none⟩ = some (.string ⟨x.nm.toArray⟩) := fun m => HX.out.at 3 rfl
  have c4 : ∀ m, (w2.drewN m).cell? ⟨w.heap.size, 4, none⟩ = some (.slice pa x.args.length ca) := fun m => HX.out.at 4 rfl
  have c5 : ∀ m, (w2.drewN m).cell? ⟨w.heap.size, 5, none⟩ = some (.int .i64 x.pos.1) := fun m => HX.out.at 5 rfl
  have c6 : ∀ m, (w2.drewN m).cell? ⟨w.heap.size, 6, none⟩ = some (.int .i64 x.pos.2) := fun m => HX.out.at 6 rfl
  have d0 : ∀ m, (w2.drewN m).cell? ⟨w.heap.size + 1, 0, none⟩ = some (.int .u8 (x.kind : Int)) := fun m => HY.out.at 0 rfl
  have d1 : ∀ m, (w2.drewN m).cell? ⟨w.heap.size + 1, 1, none⟩ = some (.int .u8 (x.op : Int)) := fun m => HY.out.at 1 rfl
  have d2 : ∀ m, (w2.drewN m).cell? ⟨w.heap.size + 1, 2, none⟩ = some (.string ⟨x.dst.toArray⟩) := fun m => HY.out.at 2 rfl
  have d3 : ∀ m, (w2.drewN m).cell? ⟨w.heap.size + 1, 3, none⟩ = some (.string ⟨x.nm.toArray⟩) := fun m => HY.out.at 3 rfl
  have d4 : ∀ m, (w2.drewN m).cell? ⟨w.heap.size + 1, 4, none⟩ = some (.slice pb x.args.length cb) := fun m => HY.out.at 4 rfl
  have d5 : ∀ m, (w2.drewN m).cell? ⟨w.heap.size + 1, 5, none⟩ = some (.int .i64 x.pos.1) := fun m => HY.out.at 5 rfl
  have d6 : ∀ m, (w2.drewN m).cell? ⟨w.heap.size + 1, 6, none⟩ = some (.int .i64 x.pos.2) := fun m => HY.out.at 6 rfl
  have p0 := c0 0
  have q0 := d0 0
  rw [show w2.drewN 0 = w2 from rfl] at p0 q0
  have p1 := c1 0
  have q1 := d1 0
  rw [show w2.drewN 0 = w2 from rfl] at p1 q1
  have p2 := c2 0
  have q2 := d2 0
  rw [show w2.drewN 0 = w2 from rfl] at p2 q2
  have p3 := c3 0
  have q3 := d3 0
  rw [show w2.drewN 0 = w2 from rfl] at p3 q3
  have p4 := c4 0
  have q4 := d4 0
  rw [show w2.drewN 0 = w2 from rfl] at p4 q4
  have p5 := c5 0
  have q5 := d5 0
  rw [show w2.drewN 0 = w2 from rfl] at p5 q5
  have p6 := c6 0
  have q6 := d6 0
  rw [show w2.drewN 0 = w2 from rfl] at p6 q6
  go_wp2_with (go_at_call 25; (refine (eqargs_same x.args _ _ _ _ _ (HA.out.below HB2.out) (HB.out.below HB2.out)).mono ?_); rintro e w3 ⟨rfl, n3, rfl⟩)
  go_ret
  exact ⟨rfl, HB2.out.trans ((below_drewN w2 n3).mono HB2.out.size)⟩

end Go.Proofs.YtoofbgoeipijcaaDoor
