/-
 Instructions and functions held against each other: package prog.
-/
import Derived.Test.YtoofbgoeipijcaaDoorUB43
import Derived.Test.YtoofbgoeipijcaaDoorUSPaT
import Derived.Deep.DeepCutAuto
namespace Go.Proofs.YtoofbgoeipijcaaDoor
set_option linter.unusedSimpArgs false
set_option linter.unusedVariables false
open Go.RowKit Go.Shelf
attribute [local go_sem] Oper.semAt_some

theorem below_drewNE (w : World) (n : Nat) : Below w.heap.size w (w.drewN n) := ⟨rfl, rfl, rfl, Nat.le_refl _, fun _ _ => rfl⟩

set_option maxRecDepth 100000 in
set_option maxHeartbeats 4000000 in
theorem eqi_k (k o : Nat) (d n : Bs) (a b : List Ag) (p p2 : Int × Int) (k2 o2 : Nat) (d2 n2 : Bs) (pa pb : Option Addr) (ca cb : Nat) (w : World) (ha : SlG kAg (· < w.heap.size) w (.slice pa a.length ca) a) (hb : SlG kAg (· < w.heap.size) w (.slice pb b.length cb) b) (h : k ≠ k2) :
  Calls Tryd.prog 40 #[.agg #[.int .u8 (k : Int), .int .u8 (o : Int), .string ⟨d.toArray⟩, .string ⟨n.toArray⟩, .slice pa a.length ca, .int .i64 p.1, .int .i64 p.2], .agg #[.int .u8 (k2 : Int), .int .u8 (o2 : Int), .string ⟨d2.toArray⟩, .string ⟨n2.toArray⟩, .slice pb b.length cb, .int .i64 p2.1, .int .i64 p2.2]] w fun e w' => e = .returned (.bool false) ∧ Below w.heap.size w w' := by
 have HA := hid ha; have HB := hid hb
 clear ha hb
 go_enter Tryd.func40, Tryd.ntmps40
 go_upto_region 1 with fail
 obtain ⟨w2, hw2⟩ : ∃ W, (w.alloc (.cells #[.int .u8 (k : Int), .int .u8 (o : Int), .string ⟨d.toArray⟩, .string ⟨n.toArray⟩, .slice pa a.length ca, .int .i64 p.1, .int .i64 p.2] 26)).alloc (.cells #[.int .u8 (k2 : Int), .int .u8 (o2 : Int), .string ⟨d2.toArray⟩, .string ⟨n2.toArray⟩, .slice pb b.length cb, .int .i64 p2.1, .int .i64 p2.2] 26) = W := ⟨_, rfl⟩
 have HB2 := hid (show Below w.heap.size w w2 from by rw [← hw2]; exact ((Below.refl _ _).alloc (Nat.le_refl _) _).alloc (by rw [World.size_alloc]; omega) _)
 have HX := hid (show BxL 26 w.heap.size [.int .u8 (k : Int), .int .u8 (o : Int), .string ⟨d.toArray⟩, .string ⟨n.toArray⟩, .slice pa a.length ca, .int .i64 p.1, .int .i64 p.2] w2 from by rw [← hw2]; exact (BxL.new _ _ _).al _)
 have HY := hid (show BxL 26 (w.heap.size + 1) [.int .u8 (k2 : Int), .int .u8 (o2 : Int), .string ⟨d2.toArray⟩, .string ⟨n2.toArray⟩, .slice pb b.length cb, .int .i64 p2.1, .int .i64 p2.2] w2 from by rw [← hw2]; have h9 := BxL.new 26 (w.alloc (.cells #[.int .u8 (k : Int), .int .u8 (o : Int), .string ⟨d.toArray⟩, .string ⟨n.toArray⟩, .slice pa a.length ca, .int .i64 p.1, .int .i64 p.2] 26)) [.int .u8 (k2 : Int), .int .u8 (o2 : Int), .string ⟨d2.toArray⟩, .string ⟨n2.toArray⟩, .slice pb b.length cb, .int .i64 p2.1, .int .i64 p2.2]; rw [World.size_alloc] at h9; exact h9)
 rw [hw2]
 clear hw2
 have xa0 : ∀ m, (w2.drewN m).cell? ⟨w.heap.size, 0, none⟩ = some (.int .u8 (k : Int)) := fun m => HX.out.at 0 rfl
 have xb0 : w2.cell? ⟨w.heap.size, 0, none⟩ = some (.int .u8 (k : Int)) := HX.out.at 0 rfl
 have xa1 : ∀ m, (w2.drewN m).cell? ⟨w.heap.size, 1, none⟩ = some (.int .u8 (o : Int)) := fun m => HX.out.at 1 rfl
 have xb1 : w2.cell? ⟨w.heap.size, 1, none⟩ = some (.int .u8 (o : Int)) := HX.out.at 1 rfl
 have xa2 : ∀ m, (w2.drewN m).cell? ⟨w.heap.size, 2, none⟩ = some (.string ⟨d.toArray⟩) := fun m => HX.out.at 2 rfl
 have xb2 : w2.cell? ⟨w.heap.size, 2, none⟩ = some (.string ⟨d.toArray⟩) := HX.out.at 2 rfl
 have xa3 : ∀ m, (w2.drewN m).cell? ⟨w.heap.size, 3, none⟩ = some (.string ⟨n.toArray⟩) := fun m => HX.out.at 3 rfl
 have xb3 : w2.cell? ⟨w.heap.size, 3, none⟩ = some (.string ⟨n.toArray⟩) := HX.out.at 3 rfl
 have xa4 : ∀ m, (w2.drewN m).cell? ⟨w.heap.size, 4, none⟩ = some (.slice pa a.length ca) := fun m => HX.out.at 4 rfl
 have xb4 : w2.cell? ⟨w.heap.size, 4, none⟩ = some (.slice pa a.length ca) := HX.out.at 4 rfl
 have xa5 : ∀ m, (w2.drewN m).cell? ⟨w.heap.size, 5, none⟩ = some (.int .i64 p.1) := fun m => HX.out.at 5 rfl
 have xb5 : w2.cell? ⟨w.heap.size, 5, none⟩ = some (.int .i64 p.1) := HX.out.at 5 rfl
 have xa6 : ∀ m, (w2.drewN m).cell? ⟨w.heap.size, 6, none⟩ = some (.int .i64 p.2) := fun m => HX.out.at 6 rfl
 have xb6 : w2.cell? ⟨w.heap.size, 6, none⟩ = some (.int .i64 p.2) := HX.out.at 6 rfl
 have ya0 : ∀ m, (w2.drewN m).cell? ⟨w.heap.size + 1, 0, none⟩ = some (.int .u8 (k2 : Int)) := fun m => HY.out.at 0 rfl
 have yb0 : w2.cell? ⟨w.heap.size + 1, 0, none⟩ = some (.int .u8 (k2 : Int)) := HY.out.at 0 rfl
 have ya1 : ∀ m, (w2.drewN m).cell? ⟨w.heap.size + 1, 1, none⟩ = some (.int .u8 (o2 : Int)) := fun m => HY.out.at 1 rfl
 have yb1 : w2.cell? ⟨w.heap.size + 1, 1, none⟩ = some (.int .u8 (o2 : Int)) := HY.out.at 1 rfl
 have ya2 : ∀ m, (w2.drewN m).cell? ⟨w.heap.size + 1, 2, none⟩ = some (.string ⟨d2.toArray⟩) := fun m => HY.out.at 2 rfl
 have yb2 : w2.cell? ⟨w.heap.size + 1, 2, none⟩ = some (.string ⟨d2.toArray⟩) := HY.out.at 2 rfl
 have ya3 : ∀ m, (w2.drewN m).cell? ⟨w.heap.size + 1, 3, none⟩ = some (.string ⟨n2.toArray⟩) := fun m => HY.out.at 3 rfl
 have yb3 : w2.cell? ⟨w.heap.size + 1, 3, none⟩ = some (.string ⟨n2.toArray⟩) := HY.out.at 3 rfl
 have ya4 : ∀ m, (w2.drewN m).cell? ⟨w.heap.size + 1, 4, none⟩ = some (.slice pb b.length cb) := fun m => HY.out.at 4 rfl
 have yb4 : w2.cell? ⟨w.heap.size + 1, 4, none⟩ = some (.slice pb b.length cb) := HY.out.at 4 rfl
 have ya5 : ∀ m, (w2.drewN m).cell? ⟨w.heap.size + 1, 5, none⟩ = some (.int .i64 p2.1) := fun m => HY.out.at 5 rfl
 have yb5 : w2.cell? ⟨w.heap.size + 1, 5, none⟩ = some (.int .i64 p2.1) := HY.out.at 5 rfl
 have ya6 : ∀ m, (w2.drewN m).cell? ⟨w.heap.size + 1, 6, none⟩ = some (.int .i64 p2.2) := fun m => HY.out.at 6 rfl
 have yb6 : w2.cell? ⟨w.heap.size + 1, 6, none⟩ = some (.int .i64 p2.2) := HY.out.at 6 rfl
 have hwd : ((k : Int) == (k2 : Int)) = false := by rw [beq_eq_false_iff_ne]; omega
 go_wp2_with fail
 go_ret
 exact ⟨rfl, HB2.out⟩

set_option maxRecDepth 100000 in
set_option maxHeartbeats 4000000 in
theorem eqi_o (k o : Nat) (d n : Bs) (a b : List Ag) (p p2 : Int × Int) (o2 : Nat) (d2 n2 : Bs) (pa pb : Option Addr) (ca cb : Nat) (w : World) (ha : SlG kAg (· < w.heap.size) w (.slice pa a.length ca) a) (hb : SlG kAg (· < w.heap.size) w (.slice pb b.length cb) b) (h : o ≠ o2) :
  Calls Tryd.prog 40 #[.agg #[.int .u8 (k : Int), .int .u8 (o : Int), .string ⟨d.toArray⟩, .string ⟨n.toArray⟩, .slice pa a.length ca, .int .i64 p.1, .int .i64 p.2], .agg #[.int .u8 (k : Int), .int .u8 (o2 : Int), .string ⟨d2.toArray⟩, .string ⟨n2.toArray⟩, .slice pb b.length cb, .int .i64 p2.1, .int .i64 p2.2]] w fun e w' => e = .returned (.bool false) ∧ Below w.heap.size w w' := by
 have HA := hid ha; have HB := hid hb
 clear ha hb
 go_enter Tryd.func40, Tryd.ntmps40
 go_upto_region 1 with fail
 obtain ⟨w2, hw2⟩ : ∃ W, (w.alloc (.cells #[.int .u8 (k : Int), .int .u8 (o : Int), .string ⟨d.toArray⟩, .string ⟨n.toArray⟩, .slice pa a.length ca, .int .i64 p.1, .int .i64 p.2] 26)).alloc (.cells #[.int .u8 (k : Int), .int .u8 (o2 : Int), .string ⟨d2.toArray⟩, .string ⟨n2.toArray⟩, .slice pb b.length cb, .int .i64 p2.1, .int .i64 p2.2] 26) = W := ⟨_, rfl⟩
 have HB2 := hid (show Below w.heap.size w w2 from by rw [← hw2]; exact ((Below.refl _ _).alloc (Nat.le_refl _) _).alloc (by rw [World.size_alloc]; omega) _)
 have HX := hid (show BxL 26 w.heap.size [.int .u8 (k : Int), .int .u8 (o : Int), .string ⟨d.toArray⟩, .string ⟨n.toArray⟩, .slice pa a.length ca, .int .i64 p.1, .int .i64 p.2] w2 from by rw [← hw2]; exact (BxL.new _ _ _).al _)
 have HY := hid (show BxL 26 (w.heap.size + 1) [.int .u8 (k : Int), .int .u8 (o2 : Int), .string ⟨d2.toArray⟩, .string ⟨n2.toArray⟩, .slice pb b.length cb, .int .i64 p2.1, .int .i64 p2.2] w2 from by rw [← hw2]; have h9 := BxL.new 26 (w.alloc (.cells #[.int .u8 (k : Int), .int .u8 (o : Int), .string ⟨d.toArray⟩, .string ⟨n.toArray⟩, .slice pa a.length ca, .int .i64 p.1, .int .i64 p.2] 26)) [.int .u8 (k : Int), .int .u8 (o2 : Int), .string ⟨d2.toArray⟩, .string ⟨n2.toArray⟩, .slice pb b.length cb, .int .i64 p2.1, .int .i64 p2.2]; rw [World.size_alloc] at h9; exact h9)
 rw [hw2]
 clear hw2
 have xa0 : ∀ m, (w2.drewN m).cell? ⟨w.heap.size, 0, none⟩ = some (.int .u8 (k : Int)) := fun m => HX.out.at 0 rfl
 have xb0 : w2.cell? ⟨w.heap.size, 0, none⟩ = some (.int .u8 (k : Int)) := HX.out.at 0 rfl
 have xa1 : ∀ m, (w2.drewN m).cell? ⟨w.heap.size, 1, none⟩ = some (.int .u8 (o : Int)) := fun m => HX.out.at 1 rfl
 have xb1 : w2.cell? ⟨w.heap.size, 1, none⟩ = some (.int .u8 (o : Int)) := HX.out.at 1 rfl
 have xa2 : ∀ m, (w2.drewN m).cell? ⟨w.heap.size, 2, none⟩ = some (.string ⟨d.toArray⟩) := fun m => HX.out.at 2 rfl
 have xb2 : w2.cell? ⟨w.heap.size, 2, none⟩ = some (.string ⟨d.toArray⟩) := HX.out.at 2 rfl
 have xa3 : ∀ m, (w2.drewN m).cell? ⟨w.heap.size, 3, none⟩ = some (.string ⟨n.toArray⟩) := fun m => HX.out.at 3 rfl
 have xb3 : w2.cell? ⟨w.heap.size, 3, none⟩ = some (.string ⟨n.toArray⟩) := HX.out.at 3 rfl
 have xa4 : ∀ m, (w2.drewN m).cell? ⟨w.heap.size, 4, none⟩ = some (.slice pa a.length ca) := fun m => HX.out.at 4 rfl
 have xb4 : w2.cell? ⟨w.heap.size, 4, none⟩ = some (.slice pa a.length ca) := HX.out.at 4 rfl
 have xa5 : ∀ m, (w2.drewN m).cell? ⟨w.heap.size, 5, none⟩ = some (.int .i64 p.1) := fun m => HX.out.at 5 rfl
 have xb5 : w2.cell? ⟨w.heap.size, 5, none⟩ = some (.int .i64 p.1) := HX.out.at 5 rfl
 have xa6 : ∀ m, (w2.drewN m).cell? ⟨w.heap.size, 6, none⟩ = some (.int .i64 p.2) := fun m => HX.out.at 6 rfl
 have xb6 : w2.cell? ⟨w.heap.size, 6, none⟩ = some (.int .i64 p.2) := HX.out.at 6 rfl
 have ya0 : ∀ m, (w2.drewN m).cell? ⟨w.heap.size + 1, 0, none⟩ = some (.int .u8 (k : Int)) := fun m => HY.out.at 0 rfl
 have yb0 : w2.cell? ⟨w.heap.size + 1, 0, none⟩ = some (.int .u8 (k : Int)) := HY.out.at 0 rfl
 have ya1 : ∀ m, (w2.drewN m).cell? ⟨w.heap.size + 1, 1, none⟩ = some (.int .u8 (o2 : Int)) := fun m => HY.out.at 1 rfl
 have yb1 : w2.cell? ⟨w.heap.size + 1, 1, none⟩ = some (.int .u8 (o2 : Int)) := HY.out.at 1 rfl
 have ya2 : ∀ m, (w2.drewN m).cell? ⟨w.heap.size + 1, 2, none⟩ = some (.string ⟨d2.toArray⟩) := fun m => HY.out.at 2 rfl
 have yb2 : w2.cell? ⟨w.heap.size + 1, 2, none⟩ = some (.string ⟨d2.toArray⟩) := HY.out.at 2 rfl
 have ya3 : ∀ m, (w2.drewN m).cell? ⟨w.heap.size + 1, 3, none⟩ = some (.string ⟨n2.toArray⟩) := fun m => HY.out.at 3 rfl
 have yb3 : w2.cell? ⟨w.heap.size + 1, 3, none⟩ = some (.string ⟨n2.toArray⟩) := HY.out.at 3 rfl
 have ya4 : ∀ m, (w2.drewN m).cell? ⟨w.heap.size + 1, 4, none⟩ = some (.slice pb b.length cb) := fun m => HY.out.at 4 rfl
 have yb4 : w2.cell? ⟨w.heap.size + 1, 4, none⟩ = some (.slice pb b.length cb) := HY.out.at 4 rfl
 have ya5 : ∀ m, (w2.drewN m).cell? ⟨w.heap.size + 1, 5, none⟩ = some (.int .i64 p2.1) := fun m => HY.out.at 5 rfl
 have yb5 : w2.cell? ⟨w.heap.size + 1, 5, none⟩ = some (.int .i64 p2.1) := HY.out.at 5 rfl
 have ya6 : ∀ m, (w2.drewN m).cell? ⟨w.heap.size + 1, 6, none⟩ = some (.int .i64 p2.2) := fun m => HY.out.at 6 rfl
 have yb6 : w2.cell? ⟨w.heap.size + 1, 6, none⟩ = some (.int .i64 p2.2) := HY.out.at 6 rfl
 have hwd : ((o : Int) == (o2 : Int)) = false := by rw [beq_eq_false_iff_ne]; omega
 go_wp2_with fail
 go_ret
 exact ⟨rfl, HB2.out⟩

set_option maxRecDepth 100000 in
set_option maxHeartbeats 4000000 in
theorem eqi_d (k o : Nat) (d n : Bs) (a b : List Ag) (p p2 : Int × Int) (d2 n2 : Bs) (pa pb : Option Addr) (ca cb : Nat) (w : World) (ha : SlG kAg (· < w.heap.size) w (.slice pa a.length ca) a) (hb : SlG kAg (· < w.heap.size) w (.slice pb b.length cb) b) (h : d ≠ d2) :
  Calls Tryd.prog 40 #[.agg #[.int .u8 (k : Int), .int .u8 (o : Int), .string ⟨d.toArray⟩, .string ⟨n.toArray⟩, .slice pa a.length ca, .int .i64 p.1, .int .i64 p.2], .agg #[.int .u8 (k : Int), .int .u8 (o : Int), .string ⟨d2.toArray⟩, .string ⟨n2.toArray⟩, .slice pb b.length cb, .int .i64 p2.1, .int .i64 p2.2]] w fun e w' => e = .returned (.bool false) ∧ Below w.heap.size w w' := by
 have HA := hid ha; have HB := hid hb
 clear ha hb
 go_enter Tryd.func40, Tryd.ntmps40
 go_upto_region 1 with fail
 obtain ⟨w2, hw2⟩ : ∃ W, (w.alloc (.cells #[.int .u8 (k : Int), .int .u8 (o : Int), .string ⟨d.toArray⟩, .string ⟨n.toArray⟩, .slice pa a.length ca, .int .i64 p.1, .int .i64 p.2] 26)).alloc (.cells #[.int .u8 (k : Int), .int .u8 (o : Int), .string ⟨d2.toArray⟩, .string ⟨n2.toArray⟩, .slice pb b.length cb, .int .i64 p2.1, .int .i64 p2.2] 26) = W := ⟨_, rfl⟩
 have HB2 := hid (show Below w.heap.size w w2 from by rw [← hw2]; exact ((Below.refl _ _).alloc (Nat.le_refl _) _).alloc (by rw [World.size_alloc]; omega) _)
 have HX := hid (show BxL 26 w.heap.size [.int .u8 (k : Int), .int .u8 (o : Int), .string ⟨d.toArray⟩, .string ⟨n.toArray⟩, .slice pa a.length ca, .int .i64 p.1, .int .i64 p.2] w2 from by rw [← hw2]; exact (BxL.new _ _ _).al _)
 have HY := hid (show BxL 26 (w.heap.size + 1) [.int .u8 (k : Int), .int .u8 (o : Int), .string ⟨d2.toArray⟩, .string ⟨n2.toArray⟩, .slice pb b.length cb, .int .i64 p2.1, .int .i64 p2.2] w2 from by rw [← hw2]; have h9 := BxL.new 26 (w.alloc (.cells #[.int .u8 (k : Int), .int .u8 (o : Int), .string ⟨d.toArray⟩, .string ⟨n.toArray⟩, .slice pa a.length ca, .int .i64 p.1, .int .i64 p.2] 26)) [.int .u8 (k : Int), .int .u8 (o : Int), .string ⟨d2.toArray⟩, .string ⟨n2.toArray⟩, .slice pb b.length cb, .int .i64 p2.1, .int .i64 p2.2]; rw [World.size_alloc] at h9; exact h9)
 rw [hw2]
 clear hw2
 have xa0 : ∀ m, (w2.drewN m).cell? ⟨w.heap.size, 0, none⟩ = some (.int .u8 (k : Int)) := fun m => HX.out.at 0 rfl
 have xb0 : w2.cell? ⟨w.heap.size, 0, none⟩ = some (.int .u8 (k : Int)) := HX.out.at 0 rfl
 have xa1 : ∀ m, (w2.drewN m).cell? ⟨w.heap.size, 1, none⟩ = some (.int .u8 (o : Int)) := fun m => HX.out.at 1 rfl
 have xb1 : w2.cell? ⟨w.heap.size, 1, none⟩ = some (.int .u8 (o : Int)) := HX.out.at 1 rfl
 have xa2 : ∀ m, (w2.drewN m).cell? ⟨w.heap.size, 2, none⟩ = some (.string ⟨d.toArray⟩) := fun m => HX.out.at 2 rfl
 have xb2 : w2.cell? ⟨w.heap.size, 2, none⟩ = some (.string ⟨d.toArray⟩) := HX.out.at 2 rfl
 have xa3 : ∀ m, (w2.drewN m).cell? ⟨w.heap.size, 3, none⟩ = some (.string ⟨n.toArray⟩) := fun m => HX.out.at 3 rfl
 have xb3 : w2.cell? ⟨w.heap.size, 3, none⟩ = some (.string ⟨n.toArray⟩) := HX.out.at 3 rfl
 have xa4 : ∀ m, (w2.drewN m).cell? ⟨w.heap.size, 4, none⟩ = some (.slice pa a.length ca) := fun m => HX.out.at 4 rfl
 have xb4 : w2.cell? ⟨w.heap.size, 4, none⟩ = some (.slice pa a.length ca) := HX.out.at 4 rfl
 have xa5 : ∀ m, (w2.drewN m).cell? ⟨w.heap.size, 5, none⟩ = some (.int .i64 p.1) := fun m => HX.out.at 5 rfl
 have xb5 : w2.cell? ⟨w.heap.size, 5, none⟩ = some (.int .i64 p.1) := HX.out.at 5 rfl
 have xa6 : ∀ m, (w2.drewN m).cell? ⟨w.heap.size, 6, none⟩ = some (.int .i64 p.2) := fun m => HX.out.at 6 rfl
 have xb6 : w2.cell? ⟨w.heap.size, 6, none⟩ = some (.int .i64 p.2) := HX.out.at 6 rfl
 have ya0 : ∀ m, (w2.drewN m).cell? ⟨w.heap.size + 1, 0, none⟩ = some (.int .u8 (k : Int)) := fun m => HY.out.at 0 rfl
 have yb0 : w2.cell? ⟨w.heap.size + 1, 0, none⟩ = some (.int .u8 (k : Int)) := HY.out.at 0 rfl
 have ya1 : ∀ m, (w2.drewN m).cell? ⟨w.heap.size + 1, 1, none⟩ = some (.int .u8 (o : Int)) := fun m => HY.out.at 1 rfl
 have yb1 : w2.cell? ⟨w.heap.size + 1, 1, none⟩ = some (.int .u8 (o : Int)) := HY.out.at 1 rfl
 have ya2 : ∀ m, (w2.drewN m).cell? ⟨w.heap.size + 1, 2, none⟩ = some (.string ⟨d2.toArray⟩) := fun m => HY.out.at 2 rfl
 have yb2 : w2.cell? ⟨w.heap.size + 1, 2, none⟩ = some (.string ⟨d2.toArray⟩) := HY.out.at 2 rfl
 have ya3 : ∀ m, (w2.drewN m).cell? ⟨w.heap.size + 1, 3, none⟩ = some (.string ⟨n2.toArray⟩) := fun m => HY.out.at 3 rfl
 have yb3 : w2.cell? ⟨w.heap.size + 1, 3, none⟩ = some (.string ⟨n2.toArray⟩) := HY.out.at 3 rfl
 have ya4 : ∀ m, (w2.drewN m).cell? ⟨w.heap.size + 1, 4, none⟩ = some (.slice pb b.length cb) := fun m => HY.out.at 4 rfl
 have yb4 : w2.cell? ⟨w.heap.size + 1, 4, none⟩ = some (.slice pb b.length cb) := HY.out.at 4 rfl
 have ya5 : ∀ m, (w2.drewN m).cell? ⟨w.heap.size + 1, 5, none⟩ = some (.int .i64 p2.1) := fun m => HY.out.at 5 rfl
 have yb5 : w2.cell? ⟨w.heap.size + 1, 5, none⟩ = some (.int .i64 p2.1) := HY.out.at 5 rfl
 have ya6 : ∀ m, (w2.drewN m).cell? ⟨w.heap.size + 1, 6, none⟩ = some (.int .i64 p2.2) := fun m => HY.out.at 6 rfl
 have yb6 : w2.cell? ⟨w.heap.size + 1, 6, none⟩ = some (.int .i64 p2.2) := HY.out.at 6 rfl
 have hwd := str_neF h
 go_wp2_with fail
 go_ret
 exact ⟨rfl, HB2.out⟩

set_option maxRecDepth 100000 in
set_option maxHeartbeats 4000000 in
theorem eqi_n (k o : Nat) (d n : Bs) (a b : List Ag) (p p2 : Int × Int) (n2 : Bs) (pa pb : Option Addr) (ca cb : Nat) (w : World) (ha : SlG kAg (· < w.heap.size) w (.slice pa a.length ca) a) (hb : SlG kAg (· < w.heap.size) w (.slice pb b.length cb) b) (h : n ≠ n2) :
  Calls Tryd.prog 40 #[.agg #[.int .u8 (k : Int), .int .u8 (o : Int), .string ⟨d.toArray⟩, .string ⟨n.toArray⟩, .slice pa a.length ca, .int .i64 p.1, .int .i64 p.2], .agg #[.int .u8 (k : Int), .int .u8 (o : Int), .string ⟨d.toArray⟩, .string ⟨n2.toArray⟩, .slice pb b.length cb, .int .i64 p2.1, .int .i64 p2.2]] w fun e w' => e = .returned (.bool false) ∧ Below w.heap.size w w' := by
 have HA := hid ha; have HB := hid hb
 clear ha hb
 go_enter Tryd.func40, Tryd.ntmps40
 go_upto_region 1 with fail
 obtain ⟨w2, hw2⟩ : ∃ W, (w.alloc (.cells #[.int .u8 (k : Int), .int .u8 (o : Int), .string ⟨d.toArray⟩, .string ⟨n.toArray⟩, .slice pa a.length ca, .int .i64 p.1, .int .i64 p.2] 26)).alloc (.cells #[.int .u8 (k : Int), .int .u8 (o : Int), .string ⟨d.toArray⟩, .string ⟨n2.toArray⟩, .slice pb b.length cb, .int .i64 p2.1, .int .i64 p2.2] 26) = W := ⟨_, rfl⟩
 have HB2 := hid (show Below w.heap.size w w2 from by rw [← hw2]; exact ((Below.refl _ _).alloc (Nat.le_refl _) _).alloc (by rw [World.size_alloc]; omega) _)
 have HX := hid (show BxL 26 w.heap.size [.int .u8 (k : Int), .int .u8 (o : Int), .string ⟨d.toArray⟩, .string ⟨n.toArray⟩, .slice pa a.length ca, .int .i64 p.1, .int .i64 p.2] w2 from by rw [← hw2]; exact (BxL.new _ _ _).al _)
 have HY := hid (show BxL 26 (w.heap.size + 1) [.int .u8 (k : Int), .int .u8 (o : Int), .string ⟨d.toArray⟩, .string ⟨n2.toArray⟩, .slice pb b.length cb, .int .i64 p2.1, .int .i64 p2.2] w2 from by rw [← hw2]; have h9 := BxL.new 26 (w.alloc (.cells #[.int .u8 (k : Int), .int .u8 (o : Int), .string ⟨d.toArray⟩, .string ⟨n.toArray⟩, .slice pa a.length ca, .int .i64 p.1, .int .i64 p.2] 26)) [.int .u8 (k : Int), .int .u8 (o : Int), .string ⟨d.toArray⟩, .string ⟨n2.toArray⟩, .slice pb b.length cb, .int .i64 p2.1, .int .i64 p2.2]; rw [World.size_alloc] at h9; exact h9)
 rw [hw2]
 clear hw2
 have xa0 : ∀ m, (w2.drewN m).cell? ⟨w.heap.size, 0, none⟩ = some (.int .u8 (k : Int)) := fun m => HX.out.at 0 rfl
 have xb0 : w2.cell? ⟨w.heap.size, 0, none⟩ = some (.int .u8 (k : Int)) := HX.out.at 0 rfl
 have xa1 : ∀ m, (w2.drewN m).cell? ⟨w.heap.size, 1, none⟩ = some (.int .u8 (o : Int)) := fun m => HX.out.at 1 rfl
 have xb1 : w2.cell? ⟨w.heap.size, 1, none⟩ = some (.int .u8 (o : Int)) := HX.out.at 1 rfl
 have xa2 : ∀ m, (w2.drewN m).cell? ⟨w.heap.size, 2, none⟩ = some (.string ⟨d.toArray⟩) := fun m => HX.out.at 2 rfl
 have xb2 : w2.cell? ⟨w.heap.size, 2, none⟩ = some (.string ⟨d.toArray⟩) := HX.out.at 2 rfl
 have xa3 : ∀ m, (w2.drewN m).cell? ⟨w.heap.size, 3, none⟩ = some (.string ⟨n.toArray⟩) := fun m => HX.out.at 3 rfl
 have xb3 : w2.cell? ⟨w.heap.size, 3, none⟩ = some (.string ⟨n.toArray⟩) := HX.out.at 3 rfl
 have xa4 : ∀ m, (w2.drewN m).cell? ⟨w.heap.size, 4, none⟩ = some (.slice pa a.length ca) := fun m => HX.out.at 4 rfl
 have xb4 : w2.cell? ⟨w.heap.size, 4, none⟩ = some (.slice pa a.length ca) := HX.out.at 4 rfl
 have xa5 : ∀ m, (w2.drewN m).cell? ⟨w.heap.size, 5, none⟩ = some (.int .i64 p.1) := fun m => HX.out.at 5 rfl
 have xb5 : w2.cell? ⟨w.heap.size, 5, none⟩ = some (.int .i64 p.1) := HX.out.at 5 rfl
 have xa6 : ∀ m, (w2.drewN m).cell? ⟨w.heap.size, 6, none⟩ = some (.int .i64 p.2) := fun m => HX.out.at 6 rfl
 have xb6 : w2.cell? ⟨w.heap.size, 6, none⟩ = some (.int .i64 p.2) := HX.out.at 6 rfl
 have ya0 : ∀ m, (w2.drewN m).cell? ⟨w.heap.size + 1, 0, none⟩ = some (.int .u8 (k : Int)) := fun m => HY.out.at 0 rfl
 have yb0 : w2.cell? ⟨w.heap.size + 1, 0, none⟩ = some (.int .u8 (k : Int)) := HY.out.at 0 rfl
 have ya1 : ∀ m, (w2.drewN m).cell? ⟨w.heap.size + 1, 1, none⟩ = some (.int .u8 (o : Int)) := fun m => HY.out.at 1 rfl
 have yb1 : w2.cell? ⟨w.heap.size + 1, 1, none⟩ = some (.int .u8 (o : Int)) := HY.out.at 1 rfl
 have ya2 : ∀ m, (w2.drewN m).cell? ⟨w.heap.size + 1, 2, none⟩ = some (.string ⟨d.toArray⟩) := fun m => HY.out.at 2 rfl
 have yb2 : w2.cell? ⟨w.heap.size + 1, 2, none⟩ = some (.string ⟨d.toArray⟩) := HY.out.at 2 rfl
 have ya3 : ∀ m, (w2.drewN m).cell? ⟨w.heap.size + 1, 3, none⟩ = some (.string ⟨n2.toArray⟩) := fun m => HY.out.at 3 rfl
 have yb3 : w2.cell? ⟨w.heap.size + 1, 3, none⟩ = some (.string ⟨n2.toArray⟩) := HY.out.at 3 rfl
 have ya4 : ∀ m, (w2.drewN m).cell? ⟨w.heap.size + 1, 4, none⟩ = some (.slice pb b.length cb) := fun m => HY.out.at 4 rfl
 have yb4 : w2.cell? ⟨w.heap.size + 1, 4, none⟩ = some (.slice pb b.length cb) := HY.out.at 4 rfl
 have ya5 : ∀ m, (w2.drewN m).cell? ⟨w.heap.size + 1, 5, none⟩ = some (.int .i64 p2.1) := fun m => HY.out.at 5 rfl
 have yb5 : w2.cell? ⟨w.heap.size + 1, 5, none⟩ = some (.int .i64 p2.1) := HY.out.at 5 rfl
 have ya6 : ∀ m, (w2.drewN m).cell? ⟨w.heap.size + 1, 6, none⟩ = some (.int .i64 p2.2) := fun m => HY.out.at 6 rfl
 have yb6 : w2.cell? ⟨w.heap.size + 1, 6, none⟩ = some (.int .i64 p2.2) := HY.out.at 6 rfl
 have hwd := str_neF h
 go_wp2_with fail
 go_ret
 exact ⟨rfl, HB2.out⟩

set_option maxRecDepth 100000 in
set_option maxHeartbeats 4000000 in
theorem eqi_s (k o : Nat) (d n : Bs) (a b : List Ag) (p p2 : Int × Int) (pa pb : Option Addr) (ca cb : Nat) (w : World) (ha : SlG kAg (· < w.heap.size) w (.slice pa a.length ca) a) (hb : SlG kAg (· < w.heap.size) w (.slice pb b.length cb) b) :
  Calls Tryd.prog 40 #[.agg #[.int .u8 (k : Int), .int .u8 (o : Int), .string ⟨d.toArray⟩, .string ⟨n.toArray⟩, .slice pa a.length ca, .int .i64 p.1, .int .i64 p.2], .agg #[.int .u8 (k : Int), .int .u8 (o : Int), .string ⟨d.toArray⟩, .string ⟨n.toArray⟩, .slice pb b.length cb, .int .i64 p2.1, .int .i64 p2.2]] w fun e w' => e = .returned (.bool (decide (a = b))) ∧ Below w.heap.size w w' := by
 have HA := hid ha; have HB := hid hb
 clear ha hb
 obtain ⟨r, hr⟩ : ∃ r, decide (a = b) = r := ⟨_, rfl⟩
 have HR := hid hr
 rw [hr]
 clear hr
 go_enter Tryd.func40, Tryd.ntmps40
 go_upto_region 1 with fail
 obtain ⟨w2, hw2⟩ : ∃ W, (w.alloc (.cells #[.int .u8 (k : Int), .int .u8 (o : Int), .string ⟨d.toArray⟩, .string ⟨n.toArray⟩, .slice pa a.length ca, .int .i64 p.1, .int .i64 p.2] 26)).alloc (.cells #[.int .u8 (k : Int), .int .u8 (o : Int), .string ⟨d.toArray⟩, .string ⟨n.toArray⟩, .slice pb b.length cb, .int .i64 p2.1, .int .i64 p2.2] 26) = W := ⟨_, rfl⟩
 have HB2 := hid (show Below w.heap.size w w2 from by rw [← hw2]; exact ((Below.refl _ _).alloc (Nat.le_refl _) _).alloc (by rw [World.size_alloc]; omega) _)
 have HX := hid (show BxL 26 w.heap.size [.int .u8 (k : Int), .int .u8 (o : Int), .string ⟨d.toArray⟩, .string ⟨n.toArray⟩, .slice pa a.length ca, .int .i64 p.1, .int .i64 p.2] w2 from by rw [← hw2]; exact (BxL.new _ _ _).al _)
 have HY := hid (show BxL 26 (w.heap.size + 1) [.int .u8 (k : Int), .int .u8 (o : Int), .string ⟨d.toArray⟩, .string ⟨n.toArray⟩, .slice pb b.length cb, .int .i64 p2.1, .int .i64 p2.2] w2 from by rw [← hw2]; have h9 := BxL.new 26 (w.alloc (.cells #[.int .u8 (k : Int), .int .u8 (o : Int), .string ⟨d.toArray⟩, .string ⟨n.toArray⟩, .slice pa a.length ca, .int .i64 p.1, .int .i64 p.2] 26)) [.int .u8 (k : Int), .int .u8 (o : Int), .string ⟨d.toArray⟩, .string ⟨n.toArray⟩, .slice pb b.length cb, .int .i64 p2.1, .int .i64 p2.2]; rw [World.size_alloc] at h9; exact h9)
 rw [hw2]
 clear hw2
 have xa0 : ∀ m, (w2.drewN m).cell? ⟨w.heap.size, 0, none⟩ = some (.int .u8 (k : Int)) := fun m => HX.out.at 0 rfl
 have xb0 : w2.cell? ⟨w.heap.size, 0, none⟩ = some (.int .u8 (k : Int)) := HX.out.at 0 rfl
 have xa1 : ∀ m, (w2.drewN m).cell? ⟨w.heap.size, 1, none⟩ = some (.int .u8 (o : Int)) := fun m => HX.out.at 1 rfl
 have xb1 : w2.cell? ⟨w.heap.size, 1, none⟩ = some (.int .u8 (o : Int)) := HX.out.at 1 rfl
 have xa2 : ∀ m, (w2.drewN m).cell? ⟨w.heap.size, 2, none⟩ = some (.string ⟨d.toArray⟩) := fun m => HX.out.at 2 rfl
 have xb2 : w2.cell? ⟨w.heap.size, 2, none⟩ = some (.string ⟨d.toArray⟩) := HX.out.at 2 rfl
 have xa3 : ∀ m, (w2.drewN m).cell? ⟨w.heap.size, 3, none⟩ = some (.string ⟨n.toArray⟩) := fun m => HX.out.at 3 rfl
 have xb3 : w2.cell? ⟨w.heap.size, 3, none⟩ = some (.string ⟨n.toArray⟩) := HX.out.at 3 rfl
 have xa4 : ∀ m, (w2.drewN m).cell? ⟨w.heap.size, 4, none⟩ = some (.slice pa a.length ca) := fun m => HX.out.at 4 rfl
 have xb4 : w2.cell? ⟨w.heap.size, 4, none⟩ = some (.slice pa a.length ca) := HX.out.at 4 rfl
 have xa5 : ∀ m, (w2.drewN m).cell? ⟨w.heap.size, 5, none⟩ = some (.int .i64 p.1) := fun m => HX.out.at 5 rfl
 have xb5 : w2.cell? ⟨w.heap.size, 5, none⟩ = some (.int .i64 p.1) := HX.out.at 5 rfl
 have xa6 : ∀ m, (w2.drewN m).cell? ⟨w.heap.size, 6, none⟩ = some (.int .i64 p.2) := fun m => HX.out.at 6 rfl
 have xb6 : w2.cell? ⟨w.heap.size, 6, none⟩ = some (.int .i64 p.2) := HX.out.at 6 rfl
 have ya0 : ∀ m, (w2.drewN m).cell? ⟨w.heap.size + 1, 0, none⟩ = some (.int .u8 (k : Int)) := fun m => HY.out.at 0 rfl
 have yb0 : w2.cell? ⟨w.heap.size + 1, 0, none⟩ = some (.int .u8 (k : Int)) := HY.out.at 0 rfl
 have ya1 : ∀ m, (w2.drewN m).cell? ⟨w.heap.size + 1, 1, none⟩ = some (.int .u8 (o : Int)) := fun m => HY.out.at 1 rfl
 have yb1 : w2.cell? ⟨w.heap.size + 1, 1, none⟩ = some (.int .u8 (o : Int)) := HY.out.at 1 rfl
 have ya2 : ∀ m, (w2.drewN m).cell? ⟨w.heap.size + 1, 2, none⟩ = some (.string ⟨d.toArray⟩) := fun m => HY.out.at 2 rfl
 have yb2 : w2.cell? ⟨w.heap.size + 1, 2, none⟩ = some (.string ⟨d.toArray⟩) := HY.out.at 2 rfl
 have ya3 : ∀ m, (w2.drewN m).cell? ⟨w.heap.size + 1, 3, none⟩ = some (.string ⟨n.toArray⟩) := fun m => HY.out.at 3 rfl
 have yb3 : w2.cell? ⟨w.heap.size + 1, 3, none⟩ = some (.string ⟨n.toArray⟩) := HY.out.at 3 rfl
 have ya4 : ∀ m, (w2.drewN m).cell? ⟨w.heap.size + 1, 4, none⟩ = some (.slice pb b.length cb) := fun m => HY.out.at 4 rfl
 have yb4 : w2.cell? ⟨w.heap.size + 1, 4, none⟩ = some (.slice pb b.length cb) := HY.out.at 4 rfl
 have ya5 : ∀ m, (w2.drewN m).cell? ⟨w.heap.size + 1, 5, none⟩ = some (.int .i64 p2.1) := fun m => HY.out.at 5 rfl
 have yb5 : w2.cell? ⟨w.heap.size + 1, 5, none⟩ = some (.int .i64 p2.1) := HY.out.at 5 rfl
 have ya6 : ∀ m, (w2.drewN m).cell? ⟨w.heap.size + 1, 6, none⟩ = some (.int .i64 p2.2) := fun m => HY.out.at 6 rfl
 have yb6 : w2.cell? ⟨w.heap.size + 1, 6, none⟩ = some (.int .i64 p2.2) := HY.out.at 6 rfl
 go_wp2_with (go_at_call 58; (refine (eqargs_any a b _ _ _ _ _ (HA.out.below HB2.out) (HB.out.below HB2.out)).mono ?_); rintro e w3 ⟨rfl, n3, rfl⟩; rw [HR.out])
 go_ret
 exact ⟨rfl, HB2.out.trans ((below_drewNE w2 n3).mono HB2.out.size)⟩

theorem bareI_eq (k o : Nat) (d n : Bs) (a b : List Ag) (p p2 : Int × Int) : decide (bareI ⟨k, o, d, n, a, p⟩ = bareI ⟨k, o, d, n, b, p2⟩) = decide (a = b) := by
 unfold bareI; simp
theorem bareI_ne {x y : In} (h : x.kind ≠ y.kind ∨ x.op ≠ y.op ∨ x.dst ≠ y.dst ∨ x.nm ≠ y.nm) : decide (bareI x = bareI y) = false := by
 refine decide_eq_false fun e => ?_
 have h0 := congrArg In.kind e; have h1 := congrArg In.op e; have h2 := congrArg In.dst e; have h3 := congrArg In.nm e
 simp only [bareI] at h0 h1 h2 h3
 rcases h with h | h | h | h
 ·exact h h0
 ·exact h h1
 ·exact h h2
 ·exact h h3
/-- Instructions held against each other, but for their positions. -/
theorem eqinstr_any (x y : In) (va vb : Value) (w : World) (ha : SlG kAg (· < w.heap.size) w va x.args) (hb : SlG kAg (· < w.heap.size) w vb y.args) :
  Calls Tryd.prog 40 #[.agg #[.int .u8 (x.kind : Int), .int .u8 (x.op : Int), .string ⟨x.dst.toArray⟩, .string ⟨x.nm.toArray⟩, va, .int .i64 x.pos.1, .int .i64 x.pos.2], .agg #[.int .u8 (y.kind : Int), .int .u8 (y.op : Int), .string ⟨y.dst.toArray⟩, .string ⟨y.nm.toArray⟩, vb, .int .i64 y.pos.1, .int .i64 y.pos.2]] w fun e w' => e = .returned (.bool (decide (bareI x = bareI y))) ∧ Below w.heap.size w w' := by
 obtain ⟨pa, ca, rfl⟩ := ha.slc
 obtain ⟨pb, cb, rfl⟩ := hb.slc
 obtain ⟨k, op, d, n, a, p⟩ := x
 obtain ⟨k2, op2, d2, n2, b, p2⟩ := y
 simp only at ha hb ⊢
 by_cases h0 : k = k2
 ·subst h0
  by_cases h1 : op = op2
  ·subst h1
   by_cases h2 : d = d2
   ·subst h2
    by_cases h3 : n = n2
    ·subst h3
     rw [bareI_eq]
     exact eqi_s k op d n a b p p2 pa pb ca cb w ha hb
    ·rw [bareI_ne (.inr (.inr (.inr h3)))]; exact eqi_n k op d n a b p p2 n2 pa pb ca cb w ha hb h3
   ·rw [bareI_ne (.inr (.inr (.inl h2)))]; exact eqi_d k op d n a b p p2 d2 n2 pa pb ca cb w ha hb h2
  ·rw [bareI_ne (.inr (.inl h1))]; exact eqi_o k op d n a b p p2 op2 d2 n2 pa pb ca cb w ha hb h1
 ·rw [bareI_ne (.inl h0)]; exact eqi_k k op d n a b p p2 k2 op2 d2 n2 pa pb ca cb w ha hb h0

set_option maxRecDepth 100000 in
set_option maxHeartbeats 4000000 in
theorem eqfi_any (a b : List In) (va vb : Value) (w : World) (ha : SlG kIn (· < w.heap.size) w va a) (hb : SlG kIn (· < w.heap.size) w vb b) :
  Calls Tryd.prog 39 #[va, vb, .func (.func 40) #[] #[]] w fun e w' => e = .returned (.bool (decide (a.map bareI = b.map bareI))) ∧ Below w.heap.size w w' := by
 obtain ⟨pa, ca, rfl⟩ := ha.slc
 obtain ⟨pb, cb, rfl⟩ := hb.slc
 have HA := hid ha; have HB := hid hb
 clear ha hb
 obtain ⟨r, hr⟩ : ∃ r, decide (a.map bareI = b.map bareI) = r := ⟨_, rfl⟩
 rw [hr]
 have HR := hid hr
 clear hr
 by_cases hl : a.length = b.length
 ·have hne : ((a.length : Int) != (b.length : Int)) = false := by simp; omega
  have HLE := hid hl
  clear hl
  go_enter Tryd.func39, Tryd.ntmps39
  go_wp2
  go_loopw [6, 17] (fun rv iv wr => ∃ k : Nat, k ≤ a.length ∧ rv = .bool false ∧ iv = .int .i64 (k : Int) ∧ (a.map bareI).take k = (b.map bareI).take k ∧ Below w.heap.size w wr) (fun _ iv _ => a.length - (intOf iv).toNat)
  case atStart => exact ⟨0, Nat.zero_le _, rfl, rfl, rfl, Below.refl _ _⟩
  case round =>
   obtain ⟨k, hk, rfl, rfl, htk, hbr⟩ := hrel
   by_cases hlt : k < a.length
   ·have hlb : k < b.length := by have := HLE.out; omega
    have hma : k < (a.map bareI).length := by rw [List.length_map]; exact hlt
    have hmb : k < (b.map bareI).length := by rw [List.length_map]; exact hlb
    obtain ⟨b1, o1, rfl, hR1, hc1⟩ := in_at HA.out (by omega : 0 < a.length)
    obtain ⟨b2, o2, rfl, hR2, hc2⟩ := in_at HB.out (by omega : 0 < b.length)
    obtain ⟨pX, cX, hX, c0, c1, c2, c3, c4, c5, c6⟩ := hc1 k hlt
    obtain ⟨pY, cY, hY, d0, d1, d2, d3, d4, d5, d6⟩ := hc2 k hlb
    have c0 := (hbr.cell (p := ⟨b1, o1 + k * 7, none⟩) hR1).trans c0
    have d0 := (hbr.cell (p := ⟨b2, o2 + k * 7, none⟩) hR2).trans d0
    have c1 := (hbr.cell (p := ⟨b1, o1 + k * 7 + 1, none⟩) hR1).trans c1
    have d1 := (hbr.cell (p := ⟨b2, o2 + k * 7 + 1, none⟩) hR2).trans d1
    have c2 := (hbr.cell (p := ⟨b1, o1 + k * 7 + 2, none⟩) hR1).trans c2
    have d2 := (hbr.cell (p := ⟨b2, o2 + k * 7 + 2, none⟩) hR2).trans d2
    have c3 := (hbr.cell (p := ⟨b1, o1 + k * 7 + 3, none⟩) hR1).trans c3
    have d3 := (hbr.cell (p := ⟨b2, o2 + k * 7 + 3, none⟩) hR2).trans d3
    have c4 := (hbr.cell (p := ⟨b1, o1 + k * 7 + 4, none⟩) hR1).trans c4
    have d4 := (hbr.cell (p := ⟨b2, o2 + k * 7 + 4, none⟩) hR2).trans d4
    have c5 := (hbr.cell (p := ⟨b1, o1 + k * 7 + 5, none⟩) hR1).trans c5
    have d5 := (hbr.cell (p := ⟨b2, o2 + k * 7 + 5, none⟩) hR2).trans d5
    have c6 := (hbr.cell (p := ⟨b1, o1 + k * 7 + 6, none⟩) hR1).trans c6
    have d6 := (hbr.cell (p := ⟨b2, o2 + k * 7 + 6, none⟩) hR2).trans d6
    have HT := hid (show bareI a[k] = bareI b[k] → (a.map bareI).take (k + 1) = (b.map bareI).take (k + 1) from fun he => take_nextL htk hma hmb (by rw [List.getElem_map, List.getElem_map]; exact he))
    have HN := hid (show bareI a[k] ≠ bareI b[k] → a.map bareI ≠ b.map bareI from fun he => ne_atL hma hmb (by rw [List.getElem_map, List.getElem_map]; exact he))
    have HLT := hid hlt; have HBR := hid hbr; have HRR := hid (And.intro hR1 hR2)
    have HAX := hid hX; have HAY := hid hY
    clear hX hY
    clear hc1 hc2 htk hR1 hR2 hma hmb hbr
    generalize a[k] = x at *
    generalize b[k] = y at *
    go_upto_region 6 with fail
    obtain ⟨wx, hwx⟩ : ∃ W, wr.alloc (.cells #[.int .u8 (x.kind : Int), .int .u8 (x.op : Int), .string ⟨x.dst.toArray⟩, .string ⟨x.nm.toArray⟩, .slice pX x.args.length cX, .int .i64 x.pos.1, .int .i64 x.pos.2] 26) = W := ⟨_, rfl⟩
    have hbx : Below wr.heap.size wr wx := by rw [← hwx]; exact (Below.refl _ _).alloc (Nat.le_refl _) _
    have HX := hid (show BxL 26 wr.heap.size [.int .u8 (x.kind : Int), .int .u8 (x.op : Int), .string ⟨x.dst.toArray⟩, .string ⟨x.nm.toArray⟩, .slice pX x.args.length cX, .int .i64 x.pos.1, .int .i64 x.pos.2] wx from by rw [← hwx]; exact BxL.new _ _ _)
    have HBX := hid (HBR.out.trans (hbx.mono HBR.out.size))
    have d0 := (hbx.cell (p := ⟨b2, o2 + k * 7, none⟩) (Nat.lt_of_lt_of_le HRR.out.2 HBR.out.size)).trans d0
    have d1 := (hbx.cell (p := ⟨b2, o2 + k * 7 + 1, none⟩) (Nat.lt_of_lt_of_le HRR.out.2 HBR.out.size)).trans d1
    have d2 := (hbx.cell (p := ⟨b2, o2 + k * 7 + 2, none⟩) (Nat.lt_of_lt_of_le HRR.out.2 HBR.out.size)).trans d2
    have d3 := (hbx.cell (p := ⟨b2, o2 + k * 7 + 3, none⟩) (Nat.lt_of_lt_of_le HRR.out.2 HBR.out.size)).trans d3
    have d4 := (hbx.cell (p := ⟨b2, o2 + k * 7 + 4, none⟩) (Nat.lt_of_lt_of_le HRR.out.2 HBR.out.size)).trans d4
    have d5 := (hbx.cell (p := ⟨b2, o2 + k * 7 + 5, none⟩) (Nat.lt_of_lt_of_le HRR.out.2 HBR.out.size)).trans d5
    have d6 := (hbx.cell (p := ⟨b2, o2 + k * 7 + 6, none⟩) (Nat.lt_of_lt_of_le HRR.out.2 HBR.out.size)).trans d6
    have HXW := hid hbx
    rw [hwx]
    clear hwx hbx c0 c1 c2 c3 c4 c5 c6
    go_upto_region 7 with fail
    obtain ⟨wy, hwy⟩ : ∃ W, wx.alloc (.cells #[.int .u8 (y.kind : Int), .int .u8 (y.op : Int), .string ⟨y.dst.toArray⟩, .string ⟨y.nm.toArray⟩, .slice pY y.args.length cY, .int .i64 y.pos.1, .int .i64 y.pos.2] 26) = W := ⟨_, rfl⟩
    have hby : Below wx.heap.size wx wy := by rw [← hwy]; exact (Below.refl _ _).alloc (Nat.le_refl _) _
    have HY := hid (show BxL 26 wx.heap.size [.int .u8 (y.kind : Int), .int .u8 (y.op : Int), .string ⟨y.dst.toArray⟩, .string ⟨y.nm.toArray⟩, .slice pY y.args.length cY, .int .i64 y.pos.1, .int .i64 y.pos.2] wy from by rw [← hwy]; exact BxL.new _ _ _)
    have HX := hid (HX.out.bel hby)
    have HBY := hid (HBX.out.trans (hby.mono HBX.out.size))
    rw [hwy]
    clear hwy hby d0 d1 d2 d3 d4 d5 d6
    have c0 : wy.cell? ⟨wr.heap.size, 0, none⟩ = some (.int .u8 (x.kind : Int)) := HX.out.at 0 rfl
    have c1 : wy.cell? ⟨wr.heap.size, 1, none⟩ = some (.int .u8 (x.op : Int)) := HX.out.at 1 rfl
    have c2 : wy.cell? ⟨wr.heap.size, 2, none⟩ = some (.string ⟨x.dst.toArray⟩) := HX.out.at 2 rfl
    have c3 : wy.cell? ⟨wr.heap.size, 3, none⟩ = some (.string ⟨x.nm.toArray⟩) := HX.out.at 3 rfl
    have c4 : wy.cell? ⟨wr.heap.size, 4, none⟩ = some (.slice pX x.args.length cX) := HX.out.at 4 rfl
    have c5 : wy.cell? ⟨wr.heap.size, 5, none⟩ = some (.int .i64 x.pos.1) := HX.out.at 5 rfl
    have c6 : wy.cell? ⟨wr.heap.size, 6, none⟩ = some (.int .i64 x.pos.2) := HX.out.at 6 rfl
    have d0 : wy.cell? ⟨wx.heap.size, 0, none⟩ = some (.int .u8 (y.kind : Int)) := HY.out.at 0 rfl
    have d1 : wy.cell? ⟨wx.heap.size, 1, none⟩ = some (.int .u8 (y.op : Int)) := HY.out.at 1 rfl
    have d2 : wy.cell? ⟨wx.heap.size, 2, none⟩ = some (.string ⟨y.dst.toArray⟩) := HY.out.at 2 rfl
    have d3 : wy.cell? ⟨wx.heap.size, 3, none⟩ = some (.string ⟨y.nm.toArray⟩) := HY.out.at 3 rfl
    have d4 : wy.cell? ⟨wx.heap.size, 4, none⟩ = some (.slice pY y.args.length cY) := HY.out.at 4 rfl
    have d5 : wy.cell? ⟨wx.heap.size, 5, none⟩ = some (.int .i64 y.pos.1) := HY.out.at 5 rfl
    have d6 : wy.cell? ⟨wx.heap.size, 6, none⟩ = some (.int .i64 y.pos.2) := HY.out.at 6 rfl
    by_cases hxy : bareI x = bareI y
    ·have HT' := hid (HT.out hxy)
     have HD := hid (show decide (bareI x = bareI y) = true from decide_eq_true hxy)
     clear HT HN hxy
     go_wp2_with (go_at_call 40; (refine (eqinstr_any x y _ _ _ (HAX.out.below HBY.out) (HAY.out.below HBY.out)).mono ?_); rintro e w3 ⟨rfl, hb3⟩; rw [HD.out]; have HB3 := hid (HBY.out.trans (hb3.mono HBY.out.size)); clear hb3)
     go_roundw
     case rel => exact ⟨k + 1, HLT.out, by first | rfl | trivial, by rw [wrap_next HLT.out HA.out.len], HT'.out, HB3.out⟩
     case measure => exact meas_next HLT.out HA.out.len
    ·have HB2 := hid (show r = false from by rw [← HR.out]; exact decide_eq_false (HN.out hxy))
     have HD := hid (show decide (bareI x = bareI y) = false from decide_eq_false hxy)
     clear HT HN hxy
     go_wp2_with (go_at_call 40; (refine (eqinstr_any x y _ _ _ (HAX.out.below HBY.out) (HAY.out.below HBY.out)).mono ?_); rintro e w3 ⟨rfl, hb3⟩; rw [HD.out]; have HB3 := hid (HBY.out.trans (hb3.mono HBY.out.size)); clear hb3)
     go_ret
     exact ⟨by rw [HB2.out]; rfl, HB3.out⟩
   ·obtain rfl : k = a.length := by omega
    have HB2 := hid (show r = true from by rw [← HR.out]; exact decide_eq_true (eq_fullL (by rw [List.length_map]; exact htk) (by rw [List.length_map, List.length_map]; exact HLE.out)))
    have HBR := hid hbr
    clear htk hlt hbr
    go_wp2
    go_ret
    exact ⟨by rw [HB2.out]; rfl, HBR.out⟩
 ·have hne : ((a.length : Int) == (b.length : Int)) = false := by simp; omega
  have HB2 := hid (show r = false from by rw [← HR.out]; exact decide_eq_false (fun e => hl (by have := congrArg List.length e; simpa using this)))
  clear hl
  go_enter Tryd.func39, Tryd.ntmps39
  go_wp2
  go_ret
  exact ⟨by rw [HB2.out]; rfl, Below.refl _ _⟩

set_option maxRecDepth 100000 in
set_option maxHeartbeats 4000000 in
theorem eqf_n (n : Bs) (a b : List Bs) (c d : List In) (p p2 : Int × Int) (n2 : Bs) (pa pb pc pd : Option Addr) (ca cb cc cd : Nat) (w : World) (ha : SlG kStr (· < w.heap.size) w (.slice pa a.length ca) a) (hb : SlG kStr (· < w.heap.size) w (.slice pb b.length cb) b)
  (hc : SlG kIn (· < w.heap.size) w (.slice pc c.length cc) c) (hd : SlG kIn (· < w.heap.size) w (.slice pd d.length cd) d) (h : n ≠ n2) :
  Calls Tryd.prog 37 #[.agg #[.string ⟨n.toArray⟩, .slice pa a.length ca, .slice pc c.length cc, .int .i64 p.1, .int .i64 p.2], .agg #[.string ⟨n2.toArray⟩, .slice pb b.length cb, .slice pd d.length cd, .int .i64 p2.1, .int .i64 p2.2]] w fun e w' => e = .returned (.bool false) ∧ Below w.heap.size w w' := by
 have HA := hid ha; have HB := hid hb; have HC := hid hc; have HD := hid hd
 clear ha hb hc hd
 go_enter Tryd.func37, Tryd.ntmps37
 go_upto_region 1 with fail
 obtain ⟨w2, hw2⟩ : ∃ W, (w.alloc (.cells #[.string ⟨n.toArray⟩, .slice pa a.length ca, .slice pc c.length cc, .int .i64 p.1, .int .i64 p.2] 45)).alloc (.cells #[.string ⟨n2.toArray⟩, .slice pb b.length cb, .slice pd d.length cd, .int .i64 p2.1, .int .i64 p2.2] 45) = W := ⟨_, rfl⟩
 have HB2 := hid (show Below w.heap.size w w2 from by rw [← hw2]; exact ((Below.refl _ _).alloc (Nat.le_refl _) _).alloc (by rw [World.size_alloc]; omega) _)
 have HX := hid (show BxL 45 w.heap.size [.string ⟨n.toArray⟩, .slice pa a.length ca, .slice pc c.length cc, .int .i64 p.1, .int .i64 p.2] w2 from by rw [← hw2]; exact (BxL.new _ _ _).al _)
 have HY := hid (show BxL 45 (w.heap.size + 1) [.string ⟨n2.toArray⟩, .slice pb b.length cb, .slice pd d.length cd, .int .i64 p2.1, .int .i64 p2.2] w2 from by rw [← hw2]; have h9 := BxL.new 45 (w.alloc (.cells #[.string ⟨n.toArray⟩, .slice pa a.length ca, .slice pc c.length cc, .int .i64 p.1, .int .i64 p.2] 45)) [.string ⟨n2.toArray⟩, .slice pb b.length cb, .slice pd d.length cd, .int .i64 p2.1, .int .i64 p2.2]; rw [World.size_alloc] at h9; exact h9)
 rw [hw2]
 clear hw2
 have xa0 : ∀ m, (w2.drewN m).cell? ⟨w.heap.size, 0, none⟩ = some (.string ⟨n.toArray⟩) := fun m => HX.out.at 0 rfl
 have xb0 : w2.cell? ⟨w.heap.size, 0, none⟩ = some (.string ⟨n.toArray⟩) := HX.out.at 0 rfl
 have xa1 : ∀ m, (w2.drewN m).cell? ⟨w.heap.size, 1, none⟩ = some (.slice pa a.length ca) := fun m => HX.out.at 1 rfl
 have xb1 : w2.cell? ⟨w.heap.size, 1, none⟩ = some (.slice pa a.length ca) := HX.out.at 1 rfl
 have xa2 : ∀ m, (w2.drewN m).cell? ⟨w.heap.size, 2, none⟩ = some (.slice pc c.length cc) := fun m => HX.out.at 2 rfl
 have xb2 : w2.cell? ⟨w.heap.size, 2, none⟩ = some (.slice pc c.length cc) := HX.out.at 2 rfl
 have xa3 : ∀ m, (w2.drewN m).cell? ⟨w.heap.size, 3, none⟩ = some (.int .i64 p.1) := fun m => HX.out.at 3 rfl
 have xb3 : w2.cell? ⟨w.heap.size, 3, none⟩ = some (.int .i64 p.1) := HX.out.at 3 rfl
 have xa4 : ∀ m, (w2.drewN m).cell? ⟨w.heap.size, 4, none⟩ = some (.int .i64 p.2) := fun m => HX.out.at 4 rfl
 have xb4 : w2.cell? ⟨w.heap.size, 4, none⟩ = some (.int .i64 p.2) := HX.out.at 4 rfl
 have ya0 : ∀ m, (w2.drewN m).cell? ⟨w.heap.size + 1, 0, none⟩ = some (.string ⟨n2.toArray⟩) := fun m => HY.out.at 0 rfl
 have yb0 : w2.cell? ⟨w.heap.size + 1, 0, none⟩ = some (.string ⟨n2.toArray⟩) := HY.out.at 0 rfl
 have ya1 : ∀ m, (w2.drewN m).cell? ⟨w.heap.size + 1, 1, none⟩ = some (.slice pb b.length cb) := fun m => HY.out.at 1 rfl
 have yb1 : w2.cell? ⟨w.heap.size + 1, 1, none⟩ = some (.slice pb b.length cb) := HY.out.at 1 rfl
 have ya2 : ∀ m, (w2.drewN m).cell? ⟨w.heap.size + 1, 2, none⟩ = some (.slice pd d.length cd) := fun m => HY.out.at 2 rfl
 have yb2 : w2.cell? ⟨w.heap.size + 1, 2, none⟩ = some (.slice pd d.length cd) := HY.out.at 2 rfl
 have ya3 : ∀ m, (w2.drewN m).cell? ⟨w.heap.size + 1, 3, none⟩ = some (.int .i64 p2.1) := fun m => HY.out.at 3 rfl
 have yb3 : w2.cell? ⟨w.heap.size + 1, 3, none⟩ = some (.int .i64 p2.1) := HY.out.at 3 rfl
 have ya4 : ∀ m, (w2.drewN m).cell? ⟨w.heap.size + 1, 4, none⟩ = some (.int .i64 p2.2) := fun m => HY.out.at 4 rfl
 have yb4 : w2.cell? ⟨w.heap.size + 1, 4, none⟩ = some (.int .i64 p2.2) := HY.out.at 4 rfl
 have hwd := str_neF h
 go_wp2_with fail
 go_ret
 exact ⟨rfl, HB2.out⟩

set_option maxRecDepth 100000 in
set_option maxHeartbeats 4000000 in
theorem eqf_p (n : Bs) (a b : List Bs) (c d : List In) (p p2 : Int × Int) (pa pb pc pd : Option Addr) (ca cb cc cd : Nat) (w : World) (ha : SlG kStr (· < w.heap.size) w (.slice pa a.length ca) a) (hb : SlG kStr (· < w.heap.size) w (.slice pb b.length cb) b)
  (hc : SlG kIn (· < w.heap.size) w (.slice pc c.length cc) c) (hd : SlG kIn (· < w.heap.size) w (.slice pd d.length cd) d) (h : a ≠ b) :
  Calls Tryd.prog 37 #[.agg #[.string ⟨n.toArray⟩, .slice pa a.length ca, .slice pc c.length cc, .int .i64 p.1, .int .i64 p.2], .agg #[.string ⟨n.toArray⟩, .slice pb b.length cb, .slice pd d.length cd, .int .i64 p2.1, .int .i64 p2.2]] w fun e w' => e = .returned (.bool false) ∧ Below w.heap.size w w' := by
 have HA := hid ha; have HB := hid hb; have HC := hid hc; have HD := hid hd
 clear ha hb hc hd
 have HR1 := hid (decide_eq_false h)
 clear h
 go_enter Tryd.func37, Tryd.ntmps37
 go_upto_region 1 with fail
 obtain ⟨w2, hw2⟩ : ∃ W, (w.alloc (.cells #[.string ⟨n.toArray⟩, .slice pa a.length ca, .slice pc c.length cc, .int .i64 p.1, .int .i64 p.2] 45)).alloc (.cells #[.string ⟨n.toArray⟩, .slice pb b.length cb, .slice pd d.length cd, .int .i64 p2.1, .int .i64 p2.2] 45) = W := ⟨_, rfl⟩
 have HB2 := hid (show Below w.heap.size w w2 from by rw [← hw2]; exact ((Below.refl _ _).alloc (Nat.le_refl _) _).alloc (by rw [World.size_alloc]; omega) _)
 have HX := hid (show BxL 45 w.heap.size [.string ⟨n.toArray⟩, .slice pa a.length ca, .slice pc c.length cc, .int .i64 p.1, .int .i64 p.2] w2 from by rw [← hw2]; exact (BxL.new _ _ _).al _)
 have HY := hid (show BxL 45 (w.heap.size + 1) [.string ⟨n.toArray⟩, .slice pb b.length cb, .slice pd d.length cd, .int .i64 p2.1, .int .i64 p2.2] w2 from by rw [← hw2]; have h9 := BxL.new 45 (w.alloc (.cells #[.string ⟨n.toArray⟩, .slice pa a.length ca, .slice pc c.length cc, .int .i64 p.1, .int .i64 p.2] 45)) [.string ⟨n.toArray⟩, .slice pb b.length cb, .slice pd d.length cd, .int .i64 p2.1, .int .i64 p2.2]; rw [World.size_alloc] at h9; exact h9)
 rw [hw2]
 clear hw2
 have xa0 : ∀ m, (w2.drewN m).cell? ⟨w.heap.size, 0, none⟩ = some (.string ⟨n.toArray⟩) := fun m => HX.out.at 0 rfl
 have xb0 : w2.cell? ⟨w.heap.size, 0, none⟩ = some (.string ⟨n.toArray⟩) := HX.out.at 0 rfl
 have xa1 : ∀ m, (w2.drewN m).cell? ⟨w.heap.size, 1, none⟩ = some (.slice pa a.length ca) := fun m => HX.out.at 1 rfl
 have xb1 : w2.cell? ⟨w.heap.size, 1, none⟩ = some (.slice pa a.length ca) := HX.out.at 1 rfl
 have xa2 : ∀ m, (w2.drewN m).cell? ⟨w.heap.size, 2, none⟩ = some (.slice pc c.length cc) := fun m => HX.out.at 2 rfl
 have xb2 : w2.cell? ⟨w.heap.size, 2, none⟩ = some (.slice pc c.length cc) := HX.out.at 2 rfl
 have xa3 : ∀ m, (w2.drewN m).cell? ⟨w.heap.size, 3, none⟩ = some (.int .i64 p.1) := fun m => HX.out.at 3 rfl
 have xb3 : w2.cell? ⟨w.heap.size, 3, none⟩ = some (.int .i64 p.1) := HX.out.at 3 rfl
 have xa4 : ∀ m, (w2.drewN m).cell? ⟨w.heap.size, 4, none⟩ = some (.int .i64 p.2) := fun m => HX.out.at 4 rfl
 have xb4 : w2.cell? ⟨w.heap.size, 4, none⟩ = some (.int .i64 p.2) := HX.out.at 4 rfl
 have ya0 : ∀ m, (w2.drewN m).cell? ⟨w.heap.size + 1, 0, none⟩ = some (.string ⟨n.toArray⟩) := fun m => HY.out.at 0 rfl
 have yb0 : w2.cell? ⟨w.heap.size + 1, 0, none⟩ = some (.string ⟨n.toArray⟩) := HY.out.at 0 rfl
 have ya1 : ∀ m, (w2.drewN m).cell? ⟨w.heap.size + 1, 1, none⟩ = some (.slice pb b.length cb) := fun m => HY.out.at 1 rfl
 have yb1 : w2.cell? ⟨w.heap.size + 1, 1, none⟩ = some (.slice pb b.length cb) := HY.out.at 1 rfl
 have ya2 : ∀ m, (w2.drewN m).cell? ⟨w.heap.size + 1, 2, none⟩ = some (.slice pd d.length cd) := fun m => HY.out.at 2 rfl
 have yb2 : w2.cell? ⟨w.heap.size + 1, 2, none⟩ = some (.slice pd d.length cd) := HY.out.at 2 rfl
 have ya3 : ∀ m, (w2.drewN m).cell? ⟨w.heap.size + 1, 3, none⟩ = some (.int .i64 p2.1) := fun m => HY.out.at 3 rfl
 have yb3 : w2.cell? ⟨w.heap.size + 1, 3, none⟩ = some (.int .i64 p2.1) := HY.out.at 3 rfl
 have ya4 : ∀ m, (w2.drewN m).cell? ⟨w.heap.size + 1, 4, none⟩ = some (.int .i64 p2.2) := fun m => HY.out.at 4 rfl
 have yb4 : w2.cell? ⟨w.heap.size + 1, 4, none⟩ = some (.int .i64 p2.2) := HY.out.at 4 rfl
 go_wp2_with (go_at_call 38; (refine (eqstrs_any a b _ _ _ _ _ (HA.out.below HB2.out) (HB.out.below HB2.out)).mono ?_); rintro e w3 ⟨rfl, n3, rfl⟩; rw [HR1.out]; have HW3 := hid (below_drewNE w2 n3))
 go_ret
 exact ⟨rfl, HB2.out.trans (HW3.out.mono HB2.out.size)⟩

set_option maxRecDepth 100000 in
set_option maxHeartbeats 4000000 in
theorem eqf_s (n : Bs) (a b : List Bs) (c d : List In) (p p2 : Int × Int) (pa pb pc pd : Option Addr) (ca cb cc cd : Nat) (w : World) (ha : SlG kStr (· < w.heap.size) w (.slice pa a.length ca) a) (hb : SlG kStr (· < w.heap.size) w (.slice pb b.length cb) b)
  (hc : SlG kIn (· < w.heap.size) w (.slice pc c.length cc) c) (hd : SlG kIn (· < w.heap.size) w (.slice pd d.length cd) d) (h : a = b) :
  Calls Tryd.prog 37 #[.agg #[.string ⟨n.toArray⟩, .slice pa a.length ca, .slice pc c.length cc, .int .i64 p.1, .int .i64 p.2], .agg #[.string ⟨n.toArray⟩, .slice pb b.length cb, .slice pd d.length cd, .int .i64 p2.1, .int .i64 p2.2]] w fun e w' => e = .returned (.bool (decide (c.map bareI = d.map bareI))) ∧ Below w.heap.size w w' := by
 have HA := hid ha; have HB := hid hb; have HC := hid hc; have HD := hid hd
 clear ha hb hc hd
 have HR1 := hid (decide_eq_true h)
 clear h
 obtain ⟨r, hr⟩ : ∃ r, decide (c.map bareI = d.map bareI) = r := ⟨_, rfl⟩
 have HR2 := hid hr
 rw [hr]
 clear hr
 go_enter Tryd.func37, Tryd.ntmps37
 go_upto_region 1 with fail
 obtain ⟨w2, hw2⟩ : ∃ W, (w.alloc (.cells #[.string ⟨n.toArray⟩, .slice pa a.length ca, .slice pc c.length cc, .int .i64 p.1, .int .i64 p.2] 45)).alloc (.cells #[.string ⟨n.toArray⟩, .slice pb b.length cb, .slice pd d.length cd, .int .i64 p2.1, .int .i64 p2.2] 45) = W := ⟨_, rfl⟩
 have HB2 := hid (show Below w.heap.size w w2 from by rw [← hw2]; exact ((Below.refl _ _).alloc (Nat.le_refl _) _).alloc (by rw [World.size_alloc]; omega) _)
 have HX := hid (show BxL 45 w.heap.size [.string ⟨n.toArray⟩, .slice pa a.length ca, .slice pc c.length cc, .int .i64 p.1, .int .i64 p.2] w2 from by rw [← hw2]; exact (BxL.new _ _ _).al _)
 have HY := hid (show BxL 45 (w.heap.size + 1) [.string ⟨n.toArray⟩, .slice pb b.length cb, .slice pd d.length cd, .int .i64 p2.1, .int .i64 p2.2] w2 from by rw [← hw2]; have h9 := BxL.new 45 (w.alloc (.cells #[.string ⟨n.toArray⟩, .slice pa a.length ca, .slice pc c.length cc, .int .i64 p.1, .int .i64 p.2] 45)) [.string ⟨n.toArray⟩, .slice pb b.length cb, .slice pd d.length cd, .int .i64 p2.1, .int .i64 p2.2]; rw [World.size_alloc] at h9; exact h9)
 rw [hw2]
 clear hw2
 have xa0 : ∀ m, (w2.drewN m).cell? ⟨w.heap.size, 0, none⟩ = some (.string ⟨n.toArray⟩) := fun m => HX.out.at 0 rfl
 have xb0 : w2.cell? ⟨w.heap.size, 0, none⟩ = some (.string ⟨n.toArray⟩) := HX.out.at 0 rfl
 have xa1 : ∀ m, (w2.drewN m).cell? ⟨w.heap.size, 1, none⟩ = some (.slice pa a.length ca) := fun m => HX.out.at 1 rfl
 have xb1 : w2.cell? ⟨w.heap.size, 1, none⟩ = some (.slice pa a.length ca) := HX.out.at 1 rfl
 have xa2 : ∀ m, (w2.drewN m).cell? ⟨w.heap.size, 2, none⟩ = some (.slice pc c.length cc) := fun m => HX.out.at 2 rfl
 have xb2 : w2.cell? ⟨w.heap.size, 2, none⟩ = some (.slice pc c.length cc) := HX.out.at 2 rfl
 have xa3 : ∀ m, (w2.drewN m).cell? ⟨w.heap.size, 3, none⟩ = some (.int .i64 p.1) := fun m => HX.out.at 3 rfl
 have xb3 : w2.cell? ⟨w.heap.size, 3, none⟩ = some (.int .i64 p.1) := HX.out.at 3 rfl
 have xa4 : ∀ m, (w2.drewN m).cell? ⟨w.heap.size, 4, none⟩ = some (.int .i64 p.2) := fun m => HX.out.at 4 rfl
 have xb4 : w2.cell? ⟨w.heap.size, 4, none⟩ = some (.int .i64 p.2) := HX.out.at 4 rfl
 have ya0 : ∀ m, (w2.drewN m).cell? ⟨w.heap.size + 1, 0, none⟩ = some (.string ⟨n.toArray⟩) := fun m => HY.out.at 0 rfl
 have yb0 : w2.cell? ⟨w.heap.size + 1, 0, none⟩ = some (.string ⟨n.toArray⟩) := HY.out.at 0 rfl
 have ya1 : ∀ m, (w2.drewN m).cell? ⟨w.heap.size + 1, 1, none⟩ = some (.slice pb b.length cb) := fun m => HY.out.at 1 rfl
 have yb1 : w2.cell? ⟨w.heap.size + 1, 1, none⟩ = some (.slice pb b.length cb) := HY.out.at 1 rfl
 have ya2 : ∀ m, (w2.drewN m).cell? ⟨w.heap.size + 1, 2, none⟩ = some (.slice pd d.length cd) := fun m => HY.out.at 2 rfl
 have yb2 : w2.cell? ⟨w.heap.size + 1, 2, none⟩ = some (.slice pd d.length cd) := HY.out.at 2 rfl
 have ya3 : ∀ m, (w2.drewN m).cell? ⟨w.heap.size + 1, 3, none⟩ = some (.int .i64 p2.1) := fun m => HY.out.at 3 rfl
 have yb3 : w2.cell? ⟨w.heap.size + 1, 3, none⟩ = some (.int .i64 p2.1) := HY.out.at 3 rfl
 have ya4 : ∀ m, (w2.drewN m).cell? ⟨w.heap.size + 1, 4, none⟩ = some (.int .i64 p2.2) := fun m => HY.out.at 4 rfl
 have yb4 : w2.cell? ⟨w.heap.size + 1, 4, none⟩ = some (.int .i64 p2.2) := HY.out.at 4 rfl
 go_wp2_with (first
  | (go_at_call 38; (refine (eqstrs_any a b _ _ _ _ _ (HA.out.below HB2.out) (HB.out.below HB2.out)).mono ?_); rintro e w3 ⟨rfl, n3, rfl⟩; rw [HR1.out]; have HW3 := hid (below_drewNE w2 n3))
  | (go_at_call 39; (refine (eqfi_any c d _ _ _ (HC.out.below (HB2.out.trans (HW3.out.mono HB2.out.size))) (HD.out.below (HB2.out.trans (HW3.out.mono HB2.out.size)))).mono ?_); rintro e w4 ⟨rfl, hb4⟩; rw [HR2.out]; have HW4 := hid (HB2.out.trans ((HW3.out.trans (hb4.mono (Nat.le_refl _))).mono HB2.out.size)); clear hb4))
 go_ret
 exact ⟨rfl, HW4.out⟩

theorem bareF_ne {f g : Fu} (h : f.nm ≠ g.nm ∨ f.params ≠ g.params) : decide (bareF f = bareF g) = false := by
 refine decide_eq_false fun e => ?_
 rcases h with h | h
 ·exact h (bF_nm e)
 ·exact h (bF_params e)
theorem bareF_eq (n : Bs) (a : List Bs) (c d : List In) (p p2 : Int × Int) : decide (bareF ⟨n, a, c, p⟩ = bareF ⟨n, a, d, p2⟩) = decide (c.map bareI = d.map bareI) := by
 unfold bareF; simp
theorem eqfu_any (f g : Fu) (va vb vc vd : Value) (w : World) (ha : SlG kStr (· < w.heap.size) w va f.params) (hb : SlG kStr (· < w.heap.size) w vb g.params) (hc : SlG kIn (· < w.heap.size) w vc f.code) (hd : SlG kIn (· < w.heap.size) w vd g.code) :
  Calls Tryd.prog 37 #[.agg #[.string ⟨f.nm.toArray⟩, va, vc, .int .i64 f.pos.1, .int .i64 f.pos.2], .agg #[.string ⟨g.nm.toArray⟩, vb, vd, .int .i64 g.pos.1, .int .i64 g.pos.2]] w fun e w' => e = .returned (.bool (decide (bareF f = bareF g))) ∧ Below w.heap.size w w' := by
 obtain ⟨pa, ca, rfl⟩ := ha.slc
 obtain ⟨pb, cb, rfl⟩ := hb.slc
 obtain ⟨pc, cc, rfl⟩ := hc.slc
 obtain ⟨pd, cd, rfl⟩ := hd.slc
 obtain ⟨n, a, c, p⟩ := f
 obtain ⟨n2, b, d, p2⟩ := g
 simp only at ha hb hc hd ⊢
 by_cases h0 : n = n2
 ·subst h0
  by_cases h1 : a = b
  ·subst h1
   rw [bareF_eq]
   exact eqf_s n a a c d p p2 pa pb pc pd ca cb cc cd w ha hb hc hd rfl
  ·rw [bareF_ne (.inr h1)]; exact eqf_p n a b c d p p2 pa pb pc pd ca cb cc cd w ha hb hc hd h1
 ·rw [bareF_ne (.inl h0)]; exact eqf_n n a b c d p p2 n2 pa pb pc pd ca cb cc cd w ha hb hc hd h0

set_option maxRecDepth 100000 in
set_option maxHeartbeats 4000000 in
theorem eqff_any (a b : List Fu) (va vb : Value) (w : World) (ha : SlG kFu (· < w.heap.size) w va a) (hb : SlG kFu (· < w.heap.size) w vb b) :
  Calls Tryd.prog 42 #[va, vb, .func (.func 37) #[] #[]] w fun e w' => e = .returned (.bool (decide (a.map bareF = b.map bareF))) ∧ Below w.heap.size w w' := by
 obtain ⟨pa, ca, rfl⟩ := ha.slc
 obtain ⟨pb, cb, rfl⟩ := hb.slc
 have HA := hid ha; have HB := hid hb
 clear ha hb
 obtain ⟨r, hr⟩ : ∃ r, decide (a.map bareF = b.map bareF) = r := ⟨_, rfl⟩
 rw [hr]
 have HR := hid hr
 clear hr
 by_cases hl : a.length = b.length
 ·have hne : ((a.length : Int) != (b.length : Int)) = false := by simp; omega
  have HLE := hid hl
  clear hl
  go_enter Tryd.func42, Tryd.ntmps42
  go_wp2
  go_loopw [6, 17] (fun rv iv wr => ∃ k : Nat, k ≤ a.length ∧ rv = .bool false ∧ iv = .int .i64 (k : Int) ∧ (a.map bareF).take k = (b.map bareF).take k ∧ Below w.heap.size w wr) (fun _ iv _ => a.length - (intOf iv).toNat)
  case atStart => exact ⟨0, Nat.zero_le _, rfl, rfl, rfl, Below.refl _ _⟩
  case round =>
   obtain ⟨k, hk, rfl, rfl, htk, hbr⟩ := hrel
   by_cases hlt : k < a.length
   ·have hlb : k < b.length := by have := HLE.out; omega
    have hma : k < (a.map bareF).length := by rw [List.length_map]; exact hlt
    have hmb : k < (b.map bareF).length := by rw [List.length_map]; exact hlb
    obtain ⟨b1, o1, rfl, hR1, hc1⟩ := fu_at HA.out (by omega : 0 < a.length)
    obtain ⟨b2, o2, rfl, hR2, hc2⟩ := fu_at HB.out (by omega : 0 < b.length)
    obtain ⟨pX, cX, pXc, cXc, hX, hcX, c0, c1, c2, c3, c4⟩ := hc1 k hlt
    obtain ⟨pY, cY, pYc, cYc, hY, hcY, d0, d1, d2, d3, d4⟩ := hc2 k hlb
    have c0 := (hbr.cell (p := ⟨b1, o1 + k * 5, none⟩) hR1).trans c0
    have d0 := (hbr.cell (p := ⟨b2, o2 + k * 5, none⟩) hR2).trans d0
    have c1 := (hbr.cell (p := ⟨b1, o1 + k * 5 + 1, none⟩) hR1).trans c1
    have d1 := (hbr.cell (p := ⟨b2, o2 + k * 5 + 1, none⟩) hR2).trans d1
    have c2 := (hbr.cell (p := ⟨b1, o1 + k * 5 + 2, none⟩) hR1).trans c2
    have d2 := (hbr.cell (p := ⟨b2, o2 + k * 5 + 2, none⟩) hR2).trans d2
    have c3 := (hbr.cell (p := ⟨b1, o1 + k * 5 + 3, none⟩) hR1).trans c3
    have d3 := (hbr.cell (p := ⟨b2, o2 + k * 5 + 3, none⟩) hR2).trans d3
    have c4 := (hbr.cell (p := ⟨b1, o1 + k * 5 + 4, none⟩) hR1).trans c4
    have d4 := (hbr.cell (p := ⟨b2, o2 + k * 5 + 4, none⟩) hR2).trans d4
    have HT := hid (show bareF a[k] = bareF b[k] → (a.map bareF).take (k + 1) = (b.map bareF).take (k + 1) from fun he => take_nextL htk hma hmb (by rw [List.getElem_map, List.getElem_map]; exact he))
    have HN := hid (show bareF a[k] ≠ bareF b[k] → a.map bareF ≠ b.map bareF from fun he => ne_atL hma hmb (by rw [List.getElem_map, List.getElem_map]; exact he))
    have HLT := hid hlt; have HBR := hid hbr; have HRR := hid (And.intro hR1 hR2)
    have HAX := hid hX; have HAY := hid hY; have HCX := hid hcX; have HCY := hid hcY
    clear hX hY hcX hcY
    clear hc1 hc2 htk hR1 hR2 hma hmb hbr
    generalize a[k] = x at *
    generalize b[k] = y at *
    go_upto_region 6 with fail
    obtain ⟨wx, hwx⟩ : ∃ W, wr.alloc (.cells #[.string ⟨x.nm.toArray⟩, .slice pX x.params.length cX, .slice pXc x.code.length cXc, .int .i64 x.pos.1, .int .i64 x.pos.2] 45) = W := ⟨_, rfl⟩
    have hbx : Below wr.heap.size wr wx := by rw [← hwx]; exact (Below.refl _ _).alloc (Nat.le_refl _) _
    have HX := hid (show BxL 45 wr.heap.size [.string ⟨x.nm.toArray⟩, .slice pX x.params.length cX, .slice pXc x.code.length cXc, .int .i64 x.pos.1, .int .i64 x.pos.2] wx from by rw [← hwx]; exact BxL.new _ _ _)
    have HBX := hid (HBR.out.trans (hbx.mono HBR.out.size))
    have d0 := (hbx.cell (p := ⟨b2, o2 + k * 5, none⟩) (Nat.lt_of_lt_of_le HRR.out.2 HBR.out.size)).trans d0
    have d1 := (hbx.cell (p := ⟨b2, o2 + k * 5 + 1, none⟩) (Nat.lt_of_lt_of_le HRR.out.2 HBR.out.size)).trans d1
    have d2 := (hbx.cell (p := ⟨b2, o2 + k * 5 + 2, none⟩) (Nat.lt_of_lt_of_le HRR.out.2 HBR.out.size)).trans d2
    have d3 := (hbx.cell (p := ⟨b2, o2 + k * 5 + 3, none⟩) (Nat.lt_of_lt_of_le HRR.out.2 HBR.out.size)).trans d3
    have d4 := (hbx.cell (p := ⟨b2, o2 + k * 5 + 4, none⟩) (Nat.lt_of_lt_of_le HRR.out.2 HBR.out.size)).trans d4
    have HXW := hid hbx
    rw [hwx]
    clear hwx hbx c0 c1 c2 c3 c4
    go_upto_region 7 with fail
    obtain ⟨wy, hwy⟩ : ∃ W, wx.alloc (.cells #[.string ⟨y.nm.toArray⟩, .slice pY y.params.length cY, .slice pYc y.code.length cYc, .int .i64 y.pos.1, .int .i64 y.pos.2] 45) = W := ⟨_, rfl⟩
    have hby : Below wx.heap.size wx wy := by rw [← hwy]; exact (Below.refl _ _).alloc (Nat.le_refl _) _
    have HY := hid (show BxL 45 wx.heap.size [.string ⟨y.nm.toArray⟩, .slice pY y.params.length cY, .slice pYc y.code.length cYc, .int .i64 y.pos.1, .int .i64 y.pos.2] wy from by rw [← hwy]; exact BxL.new _ _ _)
    have HX := hid (HX.out.bel hby)
    have HBY := hid (HBX.out.trans (hby.mono HBX.out.size))
    rw [hwy]
    clear hwy hby d0 d1 d2 d3 d4
    have c0 : wy.cell? ⟨wr.heap.size, 0, none⟩ = some (.string ⟨x.nm.toArray⟩) := HX.out.at 0 rfl
    have c1 : wy.cell? ⟨wr.heap.size, 1, none⟩ = some (.slice pX x.params.length cX) := HX.out.at 1 rfl
    have c2 : wy.cell? ⟨wr.heap.size, 2, none⟩ = some (.slice pXc x.code.length cXc) := HX.out.at 2 rfl
    have c3 : wy.cell? ⟨wr.heap.size, 3, none⟩ = some (.int .i64 x.pos.1) := HX.out.at 3 rfl
    have c4 : wy.cell? ⟨wr.heap.size, 4, none⟩ = some (.int .i64 x.pos.2) := HX.out.at 4 rfl
    have d0 : wy.cell? ⟨wx.heap.size, 0, none⟩ = some (.string ⟨y.nm.toArray⟩) := HY.out.at 0 rfl
    have d1 : wy.cell? ⟨wx.heap.size, 1, none⟩ = some (.slice pY y.params.length cY) := HY.out.at 1 rfl
    have d2 : wy.cell? ⟨wx.heap.size, 2, none⟩ = some (.slice pYc y.code.length cYc) := HY.out.at 2 rfl
    have d3 : wy.cell? ⟨wx.heap.size, 3, none⟩ = some (.int .i64 y.pos.1) := HY.out.at 3 rfl
    have d4 : wy.cell? ⟨wx.heap.size, 4, none⟩ = some (.int .i64 y.pos.2) := HY.out.at 4 rfl
    by_cases hxy : bareF x = bareF y
    ·have HT' := hid (HT.out hxy)
     have HD := hid (show decide (bareF x = bareF y) = true from decide_eq_true hxy)
     clear HT HN hxy
     go_wp2_with (go_at_call 37; (refine (eqfu_any x y _ _ _ _ _ (HAX.out.below HBY.out) (HAY.out.below HBY.out) (HCX.out.below HBY.out) (HCY.out.below HBY.out)).mono ?_); rintro e w3 ⟨rfl, hb3⟩; rw [HD.out]; have HB3 := hid (HBY.out.trans (hb3.mono HBY.out.size)); clear hb3)
     go_roundw
     case rel => exact ⟨k + 1, HLT.out, by first | rfl | trivial, by rw [wrap_next HLT.out HA.out.len], HT'.out, HB3.out⟩
     case measure => exact meas_next HLT.out HA.out.len
    ·have HB2 := hid (show r = false from by rw [← HR.out]; exact decide_eq_false (HN.out hxy))
     have HD := hid (show decide (bareF x = bareF y) = false from decide_eq_false hxy)
     clear HT HN hxy
     go_wp2_with (go_at_call 37; (refine (eqfu_any x y _ _ _ _ _ (HAX.out.below HBY.out) (HAY.out.below HBY.out) (HCX.out.below HBY.out) (HCY.out.below HBY.out)).mono ?_); rintro e w3 ⟨rfl, hb3⟩; rw [HD.out]; have HB3 := hid (HBY.out.trans (hb3.mono HBY.out.size)); clear hb3)
     go_ret
     exact ⟨by rw [HB2.out]; rfl, HB3.out⟩
   ·obtain rfl : k = a.length := by omega
    have HB2 := hid (show r = true from by rw [← HR.out]; exact decide_eq_true (eq_fullL (by rw [List.length_map]; exact htk) (by rw [List.length_map, List.length_map]; exact HLE.out)))
    have HBR := hid hbr
    clear htk hlt hbr
    go_wp2
    go_ret
    exact ⟨by rw [HB2.out]; rfl, HBR.out⟩
 ·have hne : ((a.length : Int) == (b.length : Int)) = false := by simp; omega
  have HB2 := hid (show r = false from by rw [← HR.out]; exact decide_eq_false (fun e => hl (by have := congrArg List.length e; simpa using this)))
  clear hl
  go_enter Tryd.func42, Tryd.ntmps42
  go_wp2
  go_ret
  exact ⟨by rw [HB2.out]; rfl, Below.refl _ _⟩

set_option maxRecDepth 100000 in
set_option maxHeartbeats 4000000 in
theorem eqg_w (p q : Pg) (pa pb pc pd qa qb qc qd : Option Addr) (ca cb cc cd xa xb xc xd : Nat) (w : World) (hp : PgV (· < w.heap.size) w (.slice pa p.chans.length ca) (.slice pb p.arrays.length cb) (.slice pc p.funcs.length cc) (.slice pd p.main.length cd) p)
  (hq : PgV (· < w.heap.size) w (.slice qa q.chans.length xa) (.slice qb q.arrays.length xb) (.slice qc q.funcs.length xc) (.slice qd q.main.length xd) q) (h0 : p.width ≠ q.width) :
  Calls Tryd.prog 15 #[.agg #[.int .i64 p.width, .slice pa p.chans.length ca, .slice pb p.arrays.length cb, .slice pc p.funcs.length cc, .slice pd p.main.length cd], .agg #[.int .i64 q.width, .slice qa q.chans.length xa, .slice qb q.arrays.length xb, .slice qc q.funcs.length xc, .slice qd q.main.length xd]] w fun e w' => e = .returned (.bool false) ∧ Below w.heap.size w w' := by
 have HP := hid hp; have HQ := hid hq
 clear hp hq
 have hw0 : (p.width == q.width) = false := by rw [beq_eq_false_iff_ne]; exact h0
 clear h0
 go_enter Tryd.func15, Tryd.ntmps15
 go_upto_region 1 with fail
 obtain ⟨w2, hw2⟩ : ∃ W, (w.alloc (.cells #[.int .i64 p.width, .slice pa p.chans.length ca, .slice pb p.arrays.length cb, .slice pc p.funcs.length cc, .slice pd p.main.length cd] 40)).alloc (.cells #[.int .i64 q.width, .slice qa q.chans.length xa, .slice qb q.arrays.length xb, .slice qc q.funcs.length xc, .slice qd q.main.length xd] 40) = W := ⟨_, rfl⟩
 have HB2 := hid (show Below w.heap.size w w2 from by rw [← hw2]; exact ((Below.refl _ _).alloc (Nat.le_refl _) _).alloc (by rw [World.size_alloc]; omega) _)
 have HX := hid (show BxL 40 w.heap.size [.int .i64 p.width, .slice pa p.chans.length ca, .slice pb p.arrays.length cb, .slice pc p.funcs.length cc, .slice pd p.main.length cd] w2 from by rw [← hw2]; exact (BxL.new _ _ _).al _)
 have HY := hid (show BxL 40 (w.heap.size + 1) [.int .i64 q.width, .slice qa q.chans.length xa, .slice qb q.arrays.length xb, .slice qc q.funcs.length xc, .slice qd q.main.length xd] w2 from by rw [← hw2]; have h9 := BxL.new 40 (w.alloc (.cells #[.int .i64 p.width, .slice pa p.chans.length ca, .slice pb p.arrays.length cb, .slice pc p.funcs.length cc, .slice pd p.main.length cd] 40)) [.int .i64 q.width, .slice qa q.chans.length xa, .slice qb q.arrays.length xb, .slice qc q.funcs.length xc, .slice qd q.main.length xd]; rw [World.size_alloc] at h9; exact h9)
 rw [hw2]
 clear hw2
 have xa0 : ∀ m, (w2.drewN m).cell? ⟨w.heap.size, 0, none⟩ = some (.int .i64 p.width) := fun m => HX.out.at 0 rfl
 have xb0 : w2.cell? ⟨w.heap.size, 0, none⟩ = some (.int .i64 p.width) := HX.out.at 0 rfl
 have xa1 : ∀ m, (w2.drewN m).cell? ⟨w.heap.size, 1, none⟩ = some (.slice pa p.chans.length ca) := fun m => HX.out.at 1 rfl
 have xb1 : w2.cell? ⟨w.heap.size, 1, none⟩ = some (.slice pa p.chans.length ca) := HX.out.at 1 rfl
 have xa2 : ∀ m, (w2.drewN m).cell? ⟨w.heap.size, 2, none⟩ = some (.slice pb p.arrays.length cb) := fun m => HX.out.at 2 rfl
 have xb2 : w2.cell? ⟨w.heap.size, 2, none⟩ = some (.slice pb p.arrays.length cb) := HX.out.at 2 rfl
 have xa3 : ∀ m, (w2.drewN m).cell? ⟨w.heap.size, 3, none⟩ = some (.slice pc p.funcs.length cc) := fun m => HX.out.at 3 rfl
 have xb3 : w2.cell? ⟨w.heap.size, 3, none⟩ = some (.slice pc p.funcs.length cc) := HX.out.at 3 rfl
 have xa4 : ∀ m, (w2.drewN m).cell? ⟨w.heap.size, 4, none⟩ = some (.slice pd p.main.length cd) := fun m => HX.out.at 4 rfl
 have xb4 : w2.cell? ⟨w.heap.size, 4, none⟩ = some (.slice pd p.main.length cd) := HX.out.at 4 rfl
 have ya0 : ∀ m, (w2.drewN m).cell? ⟨w.heap.size + 1, 0, none⟩ = some (.int .i64 q.width) := fun m => HY.out.at 0 rfl
 have yb0 : w2.cell? ⟨w.heap.size + 1, 0, none⟩ = some (.int .i64 q.width) := HY.out.at 0 rfl
 have ya1 : ∀ m, (w2.drewN m).cell? ⟨w.heap.size + 1, 1, none⟩ = some (.slice qa q.chans.length xa) := fun m => HY.out.at 1 rfl
 have yb1 : w2.cell? ⟨w.heap.size + 1, 1, none⟩ = some (.slice qa q.chans.length xa) := HY.out.at 1 rfl
 have ya2 : ∀ m, (w2.drewN m).cell? ⟨w.heap.size + 1, 2, none⟩ = some (.slice qb q.arrays.length xb) := fun m => HY.out.at 2 rfl
 have yb2 : w2.cell? ⟨w.heap.size + 1, 2, none⟩ = some (.slice qb q.arrays.length xb) := HY.out.at 2 rfl
 have ya3 : ∀ m, (w2.drewN m).cell? ⟨w.heap.size + 1, 3, none⟩ = some (.slice qc q.funcs.length xc) := fun m => HY.out.at 3 rfl
 have yb3 : w2.cell? ⟨w.heap.size + 1, 3, none⟩ = some (.slice qc q.funcs.length xc) := HY.out.at 3 rfl
 have ya4 : ∀ m, (w2.drewN m).cell? ⟨w.heap.size + 1, 4, none⟩ = some (.slice qd q.main.length xd) := fun m => HY.out.at 4 rfl
 have yb4 : w2.cell? ⟨w.heap.size + 1, 4, none⟩ = some (.slice qd q.main.length xd) := HY.out.at 4 rfl
 go_wp2_with fail
 go_ret
 exact ⟨rfl, HB2.out⟩

set_option maxRecDepth 100000 in
set_option maxHeartbeats 4000000 in
theorem eqg_1 (p q : Pg) (pa pb pc pd qa qb qc qd : Option Addr) (ca cb cc cd xa xb xc xd : Nat) (w : World) (hp : PgV (· < w.heap.size) w (.slice pa p.chans.length ca) (.slice pb p.arrays.length cb) (.slice pc p.funcs.length cc) (.slice pd p.main.length cd) p)
  (hq : PgV (· < w.heap.size) w (.slice qa q.chans.length xa) (.slice qb q.arrays.length xb) (.slice qc q.funcs.length xc) (.slice qd q.main.length xd) q) (h0 : p.width = q.width) (H1 : Hid (decide (p.chans = q.chans) = false)) :
  Calls Tryd.prog 15 #[.agg #[.int .i64 p.width, .slice pa p.chans.length ca, .slice pb p.arrays.length cb, .slice pc p.funcs.length cc, .slice pd p.main.length cd], .agg #[.int .i64 q.width, .slice qa q.chans.length xa, .slice qb q.arrays.length xb, .slice qc q.funcs.length xc, .slice qd q.main.length xd]] w fun e w' => e = .returned (.bool false) ∧ Below w.heap.size w w' := by
 have HP := hid hp; have HQ := hid hq
 clear hp hq
 have hw0 : (p.width == q.width) = true := by rw [beq_iff_eq]; exact h0
 have HW0 := hid h0
 clear h0
 go_enter Tryd.func15, Tryd.ntmps15
 go_upto_region 1 with fail
 obtain ⟨w2, hw2⟩ : ∃ W, (w.alloc (.cells #[.int .i64 p.width, .slice pa p.chans.length ca, .slice pb p.arrays.length cb, .slice pc p.funcs.length cc, .slice pd p.main.length cd] 40)).alloc (.cells #[.int .i64 q.width, .slice qa q.chans.length xa, .slice qb q.arrays.length xb, .slice qc q.funcs.length xc, .slice qd q.main.length xd] 40) = W := ⟨_, rfl⟩
 have HB2 := hid (show Below w.heap.size w w2 from by rw [← hw2]; exact ((Below.refl _ _).alloc (Nat.le_refl _) _).alloc (by rw [World.size_alloc]; omega) _)
 have HX := hid (show BxL 40 w.heap.size [.int .i64 p.width, .slice pa p.chans.length ca, .slice pb p.arrays.length cb, .slice pc p.funcs.length cc, .slice pd p.main.length cd] w2 from by rw [← hw2]; exact (BxL.new _ _ _).al _)
 have HY := hid (show BxL 40 (w.heap.size + 1) [.int .i64 q.width, .slice qa q.chans.length xa, .slice qb q.arrays.length xb, .slice qc q.funcs.length xc, .slice qd q.main.length xd] w2 from by rw [← hw2]; have h9 := BxL.new 40 (w.alloc (.cells #[.int .i64 p.width, .slice pa p.chans.length ca, .slice pb p.arrays.length cb, .slice pc p.funcs.length cc, .slice pd p.main.length cd] 40)) [.int .i64 q.width, .slice qa q.chans.length xa, .slice qb q.arrays.length xb, .slice qc q.funcs.length xc, .slice qd q.main.length xd]; rw [World.size_alloc] at h9; exact h9)
 rw [hw2]
 clear hw2
 have xa0 : ∀ m, (w2.drewN m).cell? ⟨w.heap.size, 0, none⟩ = some (.int .i64 p.width) := fun m => HX.out.at 0 rfl
 have xb0 : w2.cell? ⟨w.heap.size, 0, none⟩ = some (.int .i64 p.width) := HX.out.at 0 rfl
 have xa1 : ∀ m, (w2.drewN m).cell? ⟨w.heap.size, 1, none⟩ = some (.slice pa p.chans.length ca) := fun m => HX.out.at 1 rfl
 have xb1 : w2.cell? ⟨w.heap.size, 1, none⟩ = some (.slice pa p.chans.length ca) := HX.out.at 1 rfl
 have xa2 : ∀ m, (w2.drewN m).cell? ⟨w.heap.size, 2, none⟩ = some (.slice pb p.arrays.length cb) := fun m => HX.out.at 2 rfl
 have xb2 : w2.cell? ⟨w.heap.size, 2, none⟩ = some (.slice pb p.arrays.length cb) := HX.out.at 2 rfl
 have xa3 : ∀ m, (w2.drewN m).cell? ⟨w.heap.size, 3, none⟩ = some (.slice pc p.funcs.length cc) := fun m => HX.out.at 3 rfl
 have xb3 : w2.cell? ⟨w.heap.size, 3, none⟩ = some (.slice pc p.funcs.length cc) := HX.out.at 3 rfl
 have xa4 : ∀ m, (w2.drewN m).cell? ⟨w.heap.size, 4, none⟩ = some (.slice pd p.main.length cd) := fun m => HX.out.at 4 rfl
 have xb4 : w2.cell? ⟨w.heap.size, 4, none⟩ = some (.slice pd p.main.length cd) := HX.out.at 4 rfl
 have ya0 : ∀ m, (w2.drewN m).cell? ⟨w.heap.size + 1, 0, none⟩ = some (.int .i64 q.width) := fun m => HY.out.at 0 rfl
 have yb0 : w2.cell? ⟨w.heap.size + 1, 0, none⟩ = some (.int .i64 q.width) := HY.out.at 0 rfl
 have ya1 : ∀ m, (w2.drewN m).cell? ⟨w.heap.size + 1, 1, none⟩ = some (.slice qa q.chans.length xa) := fun m => HY.out.at 1 rfl
 have yb1 : w2.cell? ⟨w.heap.size + 1, 1, none⟩ = some (.slice qa q.chans.length xa) := HY.out.at 1 rfl
 have ya2 : ∀ m, (w2.drewN m).cell? ⟨w.heap.size + 1, 2, none⟩ = some (.slice qb q.arrays.length xb) := fun m => HY.out.at 2 rfl
 have yb2 : w2.cell? ⟨w.heap.size + 1, 2, none⟩ = some (.slice qb q.arrays.length xb) := HY.out.at 2 rfl
 have ya3 : ∀ m, (w2.drewN m).cell? ⟨w.heap.size + 1, 3, none⟩ = some (.slice qc q.funcs.length xc) := fun m => HY.out.at 3 rfl
 have yb3 : w2.cell? ⟨w.heap.size + 1, 3, none⟩ = some (.slice qc q.funcs.length xc) := HY.out.at 3 rfl
 have ya4 : ∀ m, (w2.drewN m).cell? ⟨w.heap.size + 1, 4, none⟩ = some (.slice qd q.main.length xd) := fun m => HY.out.at 4 rfl
 have yb4 : w2.cell? ⟨w.heap.size + 1, 4, none⟩ = some (.slice qd q.main.length xd) := HY.out.at 4 rfl
 go_wp2_with (go_at_call 38; (refine (eqstrs_any p.chans q.chans _ _ _ _ _ (HP.out.1.below HB2.out) (HQ.out.1.below HB2.out)).mono ?_); rintro e w3 ⟨rfl, n3, rfl⟩; rw [H1.out]; have HW3 := hid (HB2.out.trans ((below_drewNE w2 n3).mono HB2.out.size)))
 go_ret
 exact ⟨rfl, HW3.out⟩

set_option maxRecDepth 100000 in
set_option maxHeartbeats 4000000 in
theorem eqg_2 (p q : Pg) (pa pb pc pd qa qb qc qd : Option Addr) (ca cb cc cd xa xb xc xd : Nat) (w : World) (hp : PgV (· < w.heap.size) w (.slice pa p.chans.length ca) (.slice pb p.arrays.length cb) (.slice pc p.funcs.length cc) (.slice pd p.main.length cd) p)
  (hq : PgV (· < w.heap.size) w (.slice qa q.chans.length xa) (.slice qb q.arrays.length xb) (.slice qc q.funcs.length xc) (.slice qd q.main.length xd) q) (h0 : p.width = q.width) (H1 : Hid (decide (p.chans = q.chans) = true)) (H2 : Hid (decide (p.arrays = q.arrays) = false)) :
  Calls Tryd.prog 15 #[.agg #[.int .i64 p.width, .slice pa p.chans.length ca, .slice pb p.arrays.length cb, .slice pc p.funcs.length cc, .slice pd p.main.length cd], .agg #[.int .i64 q.width, .slice qa q.chans.length xa, .slice qb q.arrays.length xb, .slice qc q.funcs.length xc, .slice qd q.main.length xd]] w fun e w' => e = .returned (.bool false) ∧ Below w.heap.size w w' := by
 have HP := hid hp; have HQ := hid hq
 clear hp hq
 have hw0 : (p.width == q.width) = true := by rw [beq_iff_eq]; exact h0
 have HW0 := hid h0
 clear h0
 go_enter Tryd.func15, Tryd.ntmps15
 go_upto_region 1 with fail
 obtain ⟨w2, hw2⟩ : ∃ W, (w.alloc (.cells #[.int .i64 p.width, .slice pa p.chans.length ca, .slice pb p.arrays.length cb, .slice pc p.funcs.length cc, .slice pd p.main.length cd] 40)).alloc (.cells #[.int .i64 q.width, .slice qa q.chans.length xa, .slice qb q.arrays.length xb, .slice qc q.funcs.length xc, .slice qd q.main.length xd] 40) = W := ⟨_, rfl⟩
 have HB2 := hid (show Below w.heap.size w w2 from by rw [← hw2]; exact ((Below.refl _ _).alloc (Nat.le_refl _) _).alloc (by rw [World.size_alloc]; omega) _)
 have HX := hid (show BxL 40 w.heap.size [.int .i64 p.width, .slice pa p.chans.length ca, .slice pb p.arrays.length cb, .slice pc p.funcs.length cc, .slice pd p.main.length cd] w2 from by rw [← hw2]; exact (BxL.new _ _ _).al _)
 have HY := hid (show BxL 40 (w.heap.size + 1) [.int .i64 q.width, .slice qa q.chans.length xa, .slice qb q.arrays.length xb, .slice qc q.funcs.length xc, .slice qd q.main.length xd] w2 from by rw [← hw2]; have h9 := BxL.new 40 (w.alloc (.cells #[.int .i64 p.width, .slice pa p.chans.length ca, .slice pb p.arrays.length cb, .slice pc p.funcs.length cc, .slice pd p.main.length cd] 40)) [.int .i64 q.width, .slice qa q.chans.length xa, .slice qb q.arrays.length xb, .slice qc q.funcs.length xc, .slice qd q.main.length xd]; rw [World.size_alloc] at h9; exact h9)
 rw [hw2]
 clear hw2
 have xa0 : ∀ m, (w2.drewN m).cell? ⟨w.heap.size, 0, none⟩ = some (.int .i64 p.width) := fun m => HX.out.at 0 rfl
 have xb0 : w2.cell? ⟨w.heap.size, 0, none⟩ = some (.int .i64 p.width) := HX.out.at 0 rfl
 have xa1 : ∀ m, (w2.drewN m).cell? ⟨w.heap.size, 1, none⟩ = some (.slice pa p.chans.length ca) := fun m => HX.out.at 1 rfl
 have xb1 : w2.cell? ⟨w.heap.size, 1, none⟩ = some (.slice pa p.chans.length ca) := HX.out.at 1 rfl
 have xa2 : ∀ m, (w2.drewN m).cell? ⟨w.heap.size, 2, none⟩ = some (.slice pb p.arrays.length cb) := fun m => HX.out.at 2 rfl
 have xb2 : w2.cell? ⟨w.heap.size, 2, none⟩ = some (.slice pb p.arrays.length cb) := HX.out.at 2 rfl
 have xa3 : ∀ m, (w2.drewN m).cell? ⟨w.heap.size, 3, none⟩ = some (.slice pc p.funcs.length cc) := fun m => HX.out.at 3 rfl
 have xb3 : w2.cell? ⟨w.heap.size, 3, none⟩ = some (.slice pc p.funcs.length cc) := HX.out.at 3 rfl
 have xa4 : ∀ m, (w2.drewN m).cell? ⟨w.heap.size, 4, none⟩ = some (.slice pd p.main.length cd) := fun m => HX.out.at 4 rfl
 have xb4 : w2.cell? ⟨w.heap.size, 4, none⟩ = some (.slice pd p.main.length cd) := HX.out.at 4 rfl
 have ya0 : ∀ m, (w2.drewN m).cell? ⟨w.heap.size + 1, 0, none⟩ = some (.int .i64 q.width) := fun m => HY.out.at 0 rfl
 have yb0 : w2.cell? ⟨w.heap.size + 1, 0, none⟩ = some (.int .i64 q.width) := HY.out.at 0 rfl
 have ya1 : ∀ m, (w2.drewN m).cell? ⟨w.heap.size + 1, 1, none⟩ = some (.slice qa q.chans.length xa) := fun m => HY.out.at 1 rfl
 have yb1 : w2.cell? ⟨w.heap.size + 1, 1, none⟩ = some (.slice qa q.chans.length xa) := HY.out.at 1 rfl
 have ya2 : ∀ m, (w2.drewN m).cell? ⟨w.heap.size + 1, 2, none⟩ = some (.slice qb q.arrays.length xb) := fun m => HY.out.at 2 rfl
 have yb2 : w2.cell? ⟨w.heap.size + 1, 2, none⟩ = some (.slice qb q.arrays.length xb) := HY.out.at 2 rfl
 have ya3 : ∀ m, (w2.drewN m).cell? ⟨w.heap.size + 1, 3, none⟩ = some (.slice qc q.funcs.length xc) := fun m => HY.out.at 3 rfl
 have yb3 : w2.cell? ⟨w.heap.size + 1, 3, none⟩ = some (.slice qc q.funcs.length xc) := HY.out.at 3 rfl
 have ya4 : ∀ m, (w2.drewN m).cell? ⟨w.heap.size + 1, 4, none⟩ = some (.slice qd q.main.length xd) := fun m => HY.out.at 4 rfl
 have yb4 : w2.cell? ⟨w.heap.size + 1, 4, none⟩ = some (.slice qd q.main.length xd) := HY.out.at 4 rfl
 go_wp2_with (first
  | (go_at_call 38; (refine (eqstrs_any p.chans q.chans _ _ _ _ _ (HP.out.1.below HB2.out) (HQ.out.1.below HB2.out)).mono ?_); rintro e w3 ⟨rfl, n3, rfl⟩; rw [H1.out]; have HW3 := hid (HB2.out.trans ((below_drewNE w2 n3).mono HB2.out.size)))
  | (go_at_call 41; (refine (eqarrs_any p.arrays q.arrays _ _ _ _ _ (HP.out.2.1.below HW3.out) (HQ.out.2.1.below HW3.out)).mono ?_); rintro e w4 ⟨rfl, n4, rfl⟩; rw [H2.out]; have HW4 := hid (show Below w.heap.size w (w2.drewN (n3 + n4)) from HB2.out.trans ((below_drewNE w2 (n3 + n4)).mono HB2.out.size)); have HX4 := hid (show BxL 40 w.heap.size [.int .i64 p.width, .slice pa p.chans.length ca, .slice pb p.arrays.length cb, .slice pc p.funcs.length cc, .slice pd p.main.length cd] (w2.drewN (n3 + n4)) from HX.out); have HY4 := hid (show BxL 40 (w.heap.size + 1) [.int .i64 q.width, .slice qa q.chans.length xa, .slice qb q.arrays.length xb, .slice qc q.funcs.length xc, .slice qd q.main.length xd] (w2.drewN (n3 + n4)) from HY.out)))
 go_ret
 exact ⟨rfl, HW4.out⟩

set_option maxRecDepth 100000 in
set_option maxHeartbeats 4000000 in
theorem eqg_3 (p q : Pg) (pa pb pc pd qa qb qc qd : Option Addr) (ca cb cc cd xa xb xc xd : Nat) (w : World) (hp : PgV (· < w.heap.size) w (.slice pa p.chans.length ca) (.slice pb p.arrays.length cb) (.slice pc p.funcs.length cc) (.slice pd p.main.length cd) p)
  (hq : PgV (· < w.heap.size) w (.slice qa q.chans.length xa) (.slice qb q.arrays.length xb) (.slice qc q.funcs.length xc) (.slice qd q.main.length xd) q) (h0 : p.width = q.width) (H1 : Hid (decide (p.chans = q.chans) = true)) (H2 : Hid (decide (p.arrays = q.arrays) = true)) (H3 : Hid (decide (p.funcs.map bareF = q.funcs.map bareF) = false)) :
  Calls Tryd.prog 15 #[.agg #[.int .i64 p.width, .slice pa p.chans.length ca, .slice pb p.arrays.length cb, .slice pc p.funcs.length cc, .slice pd p.main.length cd], .agg #[.int .i64 q.width, .slice qa q.chans.length xa, .slice qb q.arrays.length xb, .slice qc q.funcs.length xc, .slice qd q.main.length xd]] w fun e w' => e = .returned (.bool false) ∧ Below w.heap.size w w' := by
 have HP := hid hp; have HQ := hid hq
 clear hp hq
 have hw0 : (p.width == q.width) = true := by rw [beq_iff_eq]; exact h0
 have HW0 := hid h0
 clear h0
 go_enter Tryd.func15, Tryd.ntmps15
 go_upto_region 1 with fail
 obtain ⟨w2, hw2⟩ : ∃ W, (w.alloc (.cells #[.int .i64 p.width, .slice pa p.chans.length ca, .slice pb p.arrays.length cb, .slice pc p.funcs.length cc, .slice pd p.main.length cd] 40)).alloc (.cells #[.int .i64 q.width, .slice qa q.chans.length xa, .slice qb q.arrays.length xb, .slice qc q.funcs.length xc, .slice qd q.main.length xd] 40) = W := ⟨_, rfl⟩
 have HB2 := hid (show Below w.heap.size w w2 from by rw [← hw2]; exact ((Below.refl _ _).alloc (Nat.le_refl _) _).alloc (by rw [World.size_alloc]; omega) _)
 have HX := hid (show BxL 40 w.heap.size [.int .i64 p.width, .slice pa p.chans.length ca, .slice pb p.arrays.length cb, .slice pc p.funcs.length cc, .slice pd p.main.length cd] w2 from by rw [← hw2]; exact (BxL.new _ _ _).al _)
 have HY := hid (show BxL 40 (w.heap.size + 1) [.int .i64 q.width, .slice qa q.chans.length xa, .slice qb q.arrays.length xb, .slice qc q.funcs.length xc, .slice qd q.main.length xd] w2 from by rw [← hw2]; have h9 := BxL.new 40 (w.alloc (.cells #[.int .i64 p.width, .slice pa p.chans.length ca, .slice pb p.arrays.length cb, .slice pc p.funcs.length cc, .slice pd p.main.length cd] 40)) [.int .i64 q.width, .slice qa q.chans.length xa, .slice qb q.arrays.length xb, .slice qc q.funcs.length xc, .slice qd q.main.length xd]; rw [World.size_alloc] at h9; exact h9)
 rw [hw2]
 clear hw2
 have xa0 : ∀ m, (w2.drewN m).cell? ⟨w.heap.size, 0, none⟩ = some (.int .i64 p.width) := fun m => HX.out.at 0 rfl
 have xb0 : w2.cell? ⟨w.heap.size, 0, none⟩ = some (.int .i64 p.width) := HX.out.at 0 rfl
 have xa1 : ∀ m, (w2.drewN m).cell? ⟨w.heap.size, 1, none⟩ = some (.slice pa p.chans.length ca) := fun m => HX.out.at 1 rfl
 have xb1 : w2.cell? ⟨w.heap.size, 1, none⟩ = some (.slice pa p.chans.length ca) := HX.out.at 1 rfl
 have xa2 : ∀ m, (w2.drewN m).cell? ⟨w.heap.size, 2, none⟩ = some (.slice pb p.arrays.length cb) := fun m => HX.out.at 2 rfl
 have xb2 : w2.cell? ⟨w.heap.size, 2, none⟩ = some (.slice pb p.arrays.length cb) := HX.out.at 2 rfl
 have xa3 : ∀ m, (w2.drewN m).cell? ⟨w.heap.size, 3, none⟩ = some (.slice pc p.funcs.length cc) := fun m => HX.out.at 3 rfl
 have xb3 : w2.cell? ⟨w.heap.size, 3, none⟩ = some (.slice pc p.funcs.length cc) := HX.out.at 3 rfl
 have xa4 : ∀ m, (w2.drewN m).cell? ⟨w.heap.size, 4, none⟩ = some (.slice pd p.main.length cd) := fun m => HX.out.at 4 rfl
 have xb4 : w2.cell? ⟨w.heap.size, 4, none⟩ = some (.slice pd p.main.length cd) := HX.out.at 4 rfl
 have ya0 : ∀ m, (w2.drewN m).cell? ⟨w.heap.size + 1, 0, none⟩ = some (.int .i64 q.width) := fun m => HY.out.at 0 rfl
 have yb0 : w2.cell? ⟨w.heap.size + 1, 0, none⟩ = some (.int .i64 q.width) := HY.out.at 0 rfl
 have ya1 : ∀ m, (w2.drewN m).cell? ⟨w.heap.size + 1, 1, none⟩ = some (.slice qa q.chans.length xa) := fun m => HY.out.at 1 rfl
 have yb1 : w2.cell? ⟨w.heap.size + 1, 1, none⟩ = some (.slice qa q.chans.length xa) := HY.out.at 1 rfl
 have ya2 : ∀ m, (w2.drewN m).cell? ⟨w.heap.size + 1, 2, none⟩ = some (.slice qb q.arrays.length xb) := fun m => HY.out.at 2 rfl
 have yb2 : w2.cell? ⟨w.heap.size + 1, 2, none⟩ = some (.slice qb q.arrays.length xb) := HY.out.at 2 rfl
 have ya3 : ∀ m, (w2.drewN m).cell? ⟨w.heap.size + 1, 3, none⟩ = some (.slice qc q.funcs.length xc) := fun m => HY.out.at 3 rfl
 have yb3 : w2.cell? ⟨w.heap.size + 1, 3, none⟩ = some (.slice qc q.funcs.length xc) := HY.out.at 3 rfl
 have ya4 : ∀ m, (w2.drewN m).cell? ⟨w.heap.size + 1, 4, none⟩ = some (.slice qd q.main.length xd) := fun m => HY.out.at 4 rfl
 have yb4 : w2.cell? ⟨w.heap.size + 1, 4, none⟩ = some (.slice qd q.main.length xd) := HY.out.at 4 rfl
 go_wp2_with (first
  | (go_at_call 38; (refine (eqstrs_any p.chans q.chans _ _ _ _ _ (HP.out.1.below HB2.out) (HQ.out.1.below HB2.out)).mono ?_); rintro e w3 ⟨rfl, n3, rfl⟩; rw [H1.out]; have HW3 := hid (HB2.out.trans ((below_drewNE w2 n3).mono HB2.out.size)))
  | (go_at_call 41; (refine (eqarrs_any p.arrays q.arrays _ _ _ _ _ (HP.out.2.1.below HW3.out) (HQ.out.2.1.below HW3.out)).mono ?_); rintro e w4 ⟨rfl, n4, rfl⟩; rw [H2.out]; have HW4 := hid (show Below w.heap.size w (w2.drewN (n3 + n4)) from HB2.out.trans ((below_drewNE w2 (n3 + n4)).mono HB2.out.size)); have HX4 := hid (show BxL 40 w.heap.size [.int .i64 p.width, .slice pa p.chans.length ca, .slice pb p.arrays.length cb, .slice pc p.funcs.length cc, .slice pd p.main.length cd] (w2.drewN (n3 + n4)) from HX.out); have HY4 := hid (show BxL 40 (w.heap.size + 1) [.int .i64 q.width, .slice qa q.chans.length xa, .slice qb q.arrays.length xb, .slice qc q.funcs.length xc, .slice qd q.main.length xd] (w2.drewN (n3 + n4)) from HY.out))
  | (go_at_call 42; (refine (eqff_any p.funcs q.funcs _ _ _ (HP.out.2.2.1.below HW4.out) (HQ.out.2.2.1.below HW4.out)).mono ?_); rintro e w5 ⟨rfl, hb5⟩; rw [H3.out]; have HW5 := hid (HW4.out.trans (hb5.mono HW4.out.size)); have e14 := (HX4.out.bel hb5).at 4 rfl; have e24 := (HY4.out.bel hb5).at 4 rfl; clear hb5))
 go_ret
 exact ⟨rfl, HW5.out⟩

set_option maxRecDepth 100000 in
set_option maxHeartbeats 4000000 in
theorem eqg_4 (p q : Pg) (pa pb pc pd qa qb qc qd : Option Addr) (ca cb cc cd xa xb xc xd : Nat) (w : World) (hp : PgV (· < w.heap.size) w (.slice pa p.chans.length ca) (.slice pb p.arrays.length cb) (.slice pc p.funcs.length cc) (.slice pd p.main.length cd) p)
  (hq : PgV (· < w.heap.size) w (.slice qa q.chans.length xa) (.slice qb q.arrays.length xb) (.slice qc q.funcs.length xc) (.slice qd q.main.length xd) q) (r : Bool) (h0 : p.width = q.width) (H1 : Hid (decide (p.chans = q.chans) = true)) (H2 : Hid (decide (p.arrays = q.arrays) = true)) (H3 : Hid (decide (p.funcs.map bareF = q.funcs.map bareF) = true)) (H4 : Hid (decide (p.main.map bareI = q.main.map bareI) = r)) :
  Calls Tryd.prog 15 #[.agg #[.int .i64 p.width, .slice pa p.chans.length ca, .slice pb p.arrays.length cb, .slice pc p.funcs.length cc, .slice pd p.main.length cd], .agg #[.int .i64 q.width, .slice qa q.chans.length xa, .slice qb q.arrays.length xb, .slice qc q.funcs.length xc, .slice qd q.main.length xd]] w fun e w' => e = .returned (.bool r) ∧ Below w.heap.size w w' := by
 have HP := hid hp; have HQ := hid hq
 clear hp hq
 have hw0 : (p.width == q.width) = true := by rw [beq_iff_eq]; exact h0
 have HW0 := hid h0
 clear h0
 go_enter Tryd.func15, Tryd.ntmps15
 go_upto_region 1 with fail
 obtain ⟨w2, hw2⟩ : ∃ W, (w.alloc (.cells #[.int .i64 p.width, .slice pa p.chans.length ca, .slice pb p.arrays.length cb, .slice pc p.funcs.length cc, .slice pd p.main.length cd] 40)).alloc (.cells #[.int .i64 q.width, .slice qa q.chans.length xa, .slice qb q.arrays.length xb, .slice qc q.funcs.length xc, .slice qd q.main.length xd] 40) = W := ⟨_, rfl⟩
 have HB2 := hid (show Below w.heap.size w w2 from by rw [← hw2]; exact ((Below.refl _ _).alloc (Nat.le_refl _) _).alloc (by rw [World.size_alloc]; omega) _)
 have HX := hid (show BxL 40 w.heap.size [.int .i64 p.width, .slice pa p.chans.length ca, .slice pb p.arrays.length cb, .slice pc p.funcs.length cc, .slice pd p.main.length cd] w2 from by rw [← hw2]; exact (BxL.new _ _ _).al _)
 have HY := hid (show BxL 40 (w.heap.size + 1) [.int .i64 q.width, .slice qa q.chans.length xa, .slice qb q.arrays.length xb, .slice qc q.funcs.length xc, .slice qd q.main.length xd] w2 from by rw [← hw2]; have h9 := BxL.new 40 (w.alloc (.cells #[.int .i64 p.width, .slice pa p.chans.length ca, .slice pb p.arrays.length cb, .slice pc p.funcs.length cc, .slice pd p.main.length cd] 40)) [.int .i64 q.width, .slice qa q.chans.length xa, .slice qb q.arrays.length xb, .slice qc q.funcs.length xc, .slice qd q.main.length xd]; rw [World.size_alloc] at h9; exact h9)
 rw [hw2]
 clear hw2
 have xa0 : ∀ m, (w2.drewN m).cell? ⟨w.heap.size, 0, none⟩ = some (.int .i64 p.width) := fun m => HX.out.at 0 rfl
 have xb0 : w2.cell? ⟨w.heap.size, 0, none⟩ = some (.int .i64 p.width) := HX.out.at 0 rfl
 have xa1 : ∀ m, (w2.drewN m).cell? ⟨w.heap.size, 1, none⟩ = some (.slice pa p.chans.length ca) := fun m => HX.out.at 1 rfl
 have xb1 : w2.cell? ⟨w.heap.size, 1, none⟩ = some (.slice pa p.chans.length ca) := HX.out.at 1 rfl
 have xa2 : ∀ m, (w2.drewN m).cell? ⟨w.heap.size, 2, none⟩ = some (.slice pb p.arrays.length cb) := fun m => HX.out.at 2 rfl
 have xb2 : w2.cell? ⟨w.heap.size, 2, none⟩ = some (.slice pb p.arrays.length cb) := HX.out.at 2 rfl
 have xa3 : ∀ m, (w2.drewN m).cell? ⟨w.heap.size, 3, none⟩ = some (.slice pc p.funcs.length cc) := fun m => HX.out.at 3 rfl
 have xb3 : w2.cell? ⟨w.heap.size, 3, none⟩ = some (.slice pc p.funcs.length cc) := HX.out.at 3 rfl
 have xa4 : ∀ m, (w2.drewN m).cell? ⟨w.heap.size, 4, none⟩ = some (.slice pd p.main.length cd) := fun m => HX.out.at 4 rfl
 have xb4 : w2.cell? ⟨w.heap.size, 4, none⟩ = some (.slice pd p.main.length cd) := HX.out.at 4 rfl
 have ya0 : ∀ m, (w2.drewN m).cell? ⟨w.heap.size + 1, 0, none⟩ = some (.int .i64 q.width) := fun m => HY.out.at 0 rfl
 have yb0 : w2.cell? ⟨w.heap.size + 1, 0, none⟩ = some (.int .i64 q.width) := HY.out.at 0 rfl
 have ya1 : ∀ m, (w2.drewN m).cell? ⟨w.heap.size + 1, 1, none⟩ = some (.slice qa q.chans.length xa) := fun m => HY.out.at 1 rfl
 have yb1 : w2.cell? ⟨w.heap.size + 1, 1, none⟩ = some (.slice qa q.chans.length xa) := HY.out.at 1 rfl
 have ya2 : ∀ m, (w2.drewN m).cell? ⟨w.heap.size + 1, 2, none⟩ = some (.slice qb q.arrays.length xb) := fun m => HY.out.at 2 rfl
 have yb2 : w2.cell? ⟨w.heap.size + 1, 2, none⟩ = some (.slice qb q.arrays.length xb) := HY.out.at 2 rfl
 have ya3 : ∀ m, (w2.drewN m).cell? ⟨w.heap.size + 1, 3, none⟩ = some (.slice qc q.funcs.length xc) := fun m => HY.out.at 3 rfl
 have yb3 : w2.cell? ⟨w.heap.size + 1, 3, none⟩ = some (.slice qc q.funcs.length xc) := HY.out.at 3 rfl
 have ya4 : ∀ m, (w2.drewN m).cell? ⟨w.heap.size + 1, 4, none⟩ = some (.slice qd q.main.length xd) := fun m => HY.out.at 4 rfl
 have yb4 : w2.cell? ⟨w.heap.size + 1, 4, none⟩ = some (.slice qd q.main.length xd) := HY.out.at 4 rfl
 go_wp2_with (first
  | (go_at_call 38; (refine (eqstrs_any p.chans q.chans _ _ _ _ _ (HP.out.1.below HB2.out) (HQ.out.1.below HB2.out)).mono ?_); rintro e w3 ⟨rfl, n3, rfl⟩; rw [H1.out]; have HW3 := hid (HB2.out.trans ((below_drewNE w2 n3).mono HB2.out.size)))
  | (go_at_call 41; (refine (eqarrs_any p.arrays q.arrays _ _ _ _ _ (HP.out.2.1.below HW3.out) (HQ.out.2.1.below HW3.out)).mono ?_); rintro e w4 ⟨rfl, n4, rfl⟩; rw [H2.out]; have HW4 := hid (show Below w.heap.size w (w2.drewN (n3 + n4)) from HB2.out.trans ((below_drewNE w2 (n3 + n4)).mono HB2.out.size)); have HX4 := hid (show BxL 40 w.heap.size [.int .i64 p.width, .slice pa p.chans.length ca, .slice pb p.arrays.length cb, .slice pc p.funcs.length cc, .slice pd p.main.length cd] (w2.drewN (n3 + n4)) from HX.out); have HY4 := hid (show BxL 40 (w.heap.size + 1) [.int .i64 q.width, .slice qa q.chans.length xa, .slice qb q.arrays.length xb, .slice qc q.funcs.length xc, .slice qd q.main.length xd] (w2.drewN (n3 + n4)) from HY.out))
  | (go_at_call 42; (refine (eqff_any p.funcs q.funcs _ _ _ (HP.out.2.2.1.below HW4.out) (HQ.out.2.2.1.below HW4.out)).mono ?_); rintro e w5 ⟨rfl, hb5⟩; rw [H3.out]; have HW5 := hid (HW4.out.trans (hb5.mono HW4.out.size)); have e14 := (HX4.out.bel hb5).at 4 rfl; have e24 := (HY4.out.bel hb5).at 4 rfl; clear hb5)
  | (go_at_call 39; (refine (eqfi_any p.main q.main _ _ _ (HP.out.2.2.2.below HW5.out) (HQ.out.2.2.2.below HW5.out)).mono ?_); rintro e w6 ⟨rfl, hb6⟩; rw [H4.out]; have HW6 := hid (HW5.out.trans (hb6.mono HW5.out.size)); clear hb6))
 go_ret
 exact ⟨rfl, HW6.out⟩

theorem bareP_iff (p q : Pg) : bareP p = bareP q ↔ p.width = q.width ∧ p.chans = q.chans ∧ p.arrays = q.arrays ∧ p.funcs.map bareF = q.funcs.map bareF ∧ p.main.map bareI = q.main.map bareI := by
 constructor
 ·intro h
  exact ⟨bP_width h, bP_chans h, bP_arrays h, bP_funcs h, bP_main h⟩
 ·rintro ⟨h0, h1, h2, h3, h4⟩
  unfold bareP
  rw [h0, h1, h2, h3, h4]
/-- Programs held against each other, but for positions. -/
theorem equal_any (p q : Pg) (a b c d a' b' c' d' : Value) (w : World) (hp : PgV (· < w.heap.size) w a b c d p) (hq : PgV (· < w.heap.size) w a' b' c' d' q) :
  Calls Tryd.prog 15 #[.agg #[.int .i64 p.width, a, b, c, d], .agg #[.int .i64 q.width, a', b', c', d']] w fun e w' => e = .returned (.bool (decide (bareP p = bareP q))) ∧ Below w.heap.size w w' := by
 obtain ⟨pa, ca, h1⟩ := hp.1.slc
 obtain ⟨pb, cb, h2⟩ := hp.2.1.slc
 obtain ⟨pc, cc, h3⟩ := hp.2.2.1.slc
 obtain ⟨pd, cd, h4⟩ := hp.2.2.2.slc
 subst h1 h2 h3 h4
 obtain ⟨qa, xa, h1⟩ := hq.1.slc
 obtain ⟨qb, xb, h2⟩ := hq.2.1.slc
 obtain ⟨qc, xc, h3⟩ := hq.2.2.1.slc
 obtain ⟨qd, xd, h4⟩ := hq.2.2.2.slc
 subst h1 h2 h3 h4
 by_cases h0 : p.width = q.width
 ·by_cases h1 : p.chans = q.chans
  ·by_cases h2 : p.arrays = q.arrays
   ·by_cases h3 : p.funcs.map bareF = q.funcs.map bareF
    ·have : decide (bareP p = bareP q) = decide (p.main.map bareI = q.main.map bareI) := by
      rw [decide_eq_decide, bareP_iff]; exact ⟨fun h => h.2.2.2.2, fun h => ⟨h0, h1, h2, h3, h⟩⟩
     rw [this]
     exact eqg_4 p q pa pb pc pd qa qb qc qd ca cb cc cd xa xb xc xd w hp hq _ h0 (decide_eq_true h1) (decide_eq_true h2) (decide_eq_true h3) rfl
    ·rw [decide_eq_false fun h => h3 (bP_funcs h)]
     exact eqg_3 p q pa pb pc pd qa qb qc qd ca cb cc cd xa xb xc xd w hp hq h0 (decide_eq_true h1) (decide_eq_true h2) (decide_eq_false h3)
   ·rw [decide_eq_false fun h => h2 (bP_arrays h)]
    exact eqg_2 p q pa pb pc pd qa qb qc qd ca cb cc cd xa xb xc xd w hp hq h0 (decide_eq_true h1) (decide_eq_false h2)
  ·rw [decide_eq_false fun h => h1 (bP_chans h)]
   exact eqg_1 p q pa pb pc pd qa qb qc qd ca cb cc cd xa xb xc xd w hp hq h0 (decide_eq_false h1)
 ·rw [decide_eq_false fun h => h0 (bP_width h)]
  exact eqg_w p q pa pb pc pd qa qb qc qd ca cb cc cd xa xb xc xd w hp hq h0

end Go.Proofs.YtoofbgoeipijcaaDoor
