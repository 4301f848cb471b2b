/-
  The law PrintInstrs.
  Lists of bytes in memory, and an argument that is one, opened.
-/
import Derived.Test.YtoofbgoeipijcaaDoorPqW
import Derived.Test.YtoofbgoeipijcaaDoorPi
import Derived.Test.YtoofbgoeipijcaaDoorPz
import Derived.Test.YtoofbgoeipijcaaDoorPy
import Derived.Deep.DeepCutAuto
import Derived.Test.YtoofbgoeipijcaaDoorB1
namespace Go.Proofs.YtoofbgoeipijcaaDoor
set_option linter.unusedSimpArgs false
set_option linter.unusedVariables false
open Go.RowKit Go.Shelf
attribute [local go_sem] Oper.semAt_some

set_option maxRecDepth 100000 in
set_option maxHeartbeats 8000000 in
/-- The law PrintInstrs. -/
theorem printInstrs_any (x : In) (v : Value) (w : World) (h8 : x.kind ≤ 255 ∧ x.op ≤ 255) (hd : x.dst.length ≤ 140737488355328) (hm : x.nm.length ≤ 140737488355328) (ha : ∀ a ∈ x.args, a.nm.length ≤ 140737488355328) (hn : ∀ a ∈ x.args, a.num < 18446744073709551616) (h : SlG kAg (· < w.heap.size) w v x.args) (hE : PrE w) :
    Calls Tryd.prog 3 #[.agg #[.int .u8 (x.kind : Int), .int .u8 (x.op : Int), .string ⟨x.dst.toArray⟩, .string ⟨x.nm.toArray⟩, v, .int .i64 x.pos.1, .int .i64 x.pos.2]] w fun e w' => e = .returned (.bool true) ∧ Below w.heap.size w w' := by
  obtain ⟨pa, ca, rfl⟩ := h.slc
  obtain ⟨m, hm1, hm2, hmn⟩ : ∃ m : Nat, m ≤ x.args.length ∧ m ≤ 34 ∧ min (x.args.length : Int) 34 = (m : Int) := ⟨min x.args.length 34, Nat.min_le_left _ _, Nat.min_le_right _ _, by omega⟩
  have hcap : x.args.length ≤ ca := by obtain ⟨_, _, p, c, e, h2, _⟩ := h; cases e; exact h2
  have hmc : m ≤ ca := by omega
  have HS := hid (h.cut m hm1)
  have HY := hid (show ∀ a ∈ x.args.take m, a ∈ x.args from fun a h => List.mem_of_mem_take h)
  have HLN := hid (show (x.args.take m).length = m from by rw [List.length_take]; omega)
  have HM := hid hm2
  have H8 := hid h8; have HD := hid (And.intro hd hm); have HA := hid ha; have HN := hid hn; have HE := hid hE
  obtain ⟨T, hT⟩ : ∃ T, x.args.take m = T := ⟨_, rfl⟩
  rw [hT] at HS HY HLN
  clear h h8 hd hm ha hn hE hcap hT hm2
  go_enter Tryd.func3, Tryd.ntmps3
  go_upto_region 1 with fail
  obtain ⟨wo, hwo⟩ : ∃ W, w.alloc (.cells #[.int .u8 (x.kind : Int), .int .u8 (x.op : Int), .string ⟨x.dst.toArray⟩, .string ⟨x.nm.toArray⟩, .slice pa x.args.length ca, .int .i64 x.pos.1, .int .i64 x.pos.2] 26) = W := ⟨_, rfl⟩
  have HB := hid (show Below w.heap.size w wo from by rw [← hwo]; exact (Below.refl _ _).alloc (Nat.le_refl _) _)
  have HX := hid (show BxL 26 w.heap.size [.int .u8 (x.kind : Int), .int .u8 (x.op : Int), .string ⟨x.dst.toArray⟩, .string ⟨x.nm.toArray⟩, .slice pa x.args.length ca, .int .i64 x.pos.1, .int .i64 x.pos.2] wo from by rw [← hwo]; exact BxL.new _ _ _)
  rw [hwo]
  clear hwo
  have n4 : wo.cell? ⟨w.heap.size, 4, none⟩ = some (.slice pa x.args.length ca) := HX.out.at 4 rfl
  go_upto_region 2 with (go_at_call 6; (refine (copyargs_any T _ _ (HS.out.below HB.out) (by rw [HLN.out]; have := HM.out; omega)).mono ?_); rintro e w1 ⟨v1, rfl, hg, hb⟩; obtain ⟨p1, c1, hv1⟩ := hg.slc; rw [HLN.out] at hv1; subst hv1; have HG1 := hid hg; have HW1 := hid hb; have HX1 := hid (HX.out.bel hb); have k4 : w1.cell? ⟨w.heap.size, 4, none⟩ = some (.slice pa x.args.length ca) := HX1.out.at 4 rfl; have f4 : w1.frozen? ⟨w.heap.size, 4, none⟩ = false := HX1.out.fr 4; clear hg hb)
  clear n4 hm1 hmn hmc
  have hlt4 : ∀ j, (Value.slice p1 m c1).ownBlock = some j → j ≠ w.heap.size := fun j hj => by have h1 := (HG1.out.lt j hj).1; have h2 := HX.out.lt; omega
  obtain ⟨w2, hw2⟩ : ∃ W, w1.setCell ⟨w.heap.size, 4, none⟩ (.slice p1 m c1) = W := ⟨_, rfl⟩
  have HX2 := hid (show BxL 26 w.heap.size [.int .u8 (x.kind : Int), .int .u8 (x.op : Int), .string ⟨x.dst.toArray⟩, .string ⟨x.nm.toArray⟩, .slice p1 m c1, .int .i64 x.pos.1, .int .i64 x.pos.2] w2 from by rw [← hw2]; exact HX1.out.set 4 _)
  have HG2 := hid (show SlG kAg (· < w2.heap.size) w2 (.slice p1 m c1) T from by
    rw [← hw2]
    exact (ag_keepOwn HG1.out (by rw [World.size_setCell]; exact Nat.le_refl _) fun j hj => heap_ot (hlt4 j hj) _).sl (by rw [HLN.out]; have := HM.out; omega))
  have HB2 := hid (show Below w.heap.size w w2 from by rw [← hw2]; exact (HB.out.trans (HW1.out.mono HB.out.size)).setCell (p := ⟨w.heap.size, 4, none⟩) (Nat.le_refl _) _)
  rw [hw2]
  clear hw2 k4 f4 hlt4
  have HYI := hid (show (⟨x.kind, x.op, x.dst, x.nm, T, x.pos⟩ : In).args = T from rfl)
  obtain ⟨SE, hSE⟩ : ∃ r, instrM ⟨x.kind, x.op, x.dst, x.nm, T, x.pos⟩ = r := ⟨_, rfl⟩
  obtain ⟨S, E⟩ := SE
  have HSE := hid hSE
  clear hSE
  have n0 : w2.cell? ⟨w.heap.size, 0, none⟩ = some (.int .u8 (x.kind : Int)) := HX2.out.at 0 rfl
  have n1 : w2.cell? ⟨w.heap.size, 1, none⟩ = some (.int .u8 (x.op : Int)) := HX2.out.at 1 rfl
  have n2 : w2.cell? ⟨w.heap.size, 2, none⟩ = some (.string ⟨x.dst.toArray⟩) := HX2.out.at 2 rfl
  have n3 : w2.cell? ⟨w.heap.size, 3, none⟩ = some (.string ⟨x.nm.toArray⟩) := HX2.out.at 3 rfl
  have n4 : w2.cell? ⟨w.heap.size, 4, none⟩ = some (.slice p1 m c1) := HX2.out.at 4 rfl
  have n5 : w2.cell? ⟨w.heap.size, 5, none⟩ = some (.int .i64 x.pos.1) := HX2.out.at 5 rfl
  have n6 : w2.cell? ⟨w.heap.size, 6, none⟩ = some (.int .i64 x.pos.2) := HX2.out.at 6 rfl
  go_upto_region 3 with (go_at_call 7; (refine (copyinstr_any ⟨x.kind, x.op, x.dst, x.nm, T, x.pos⟩ _ _ HG2.out (by show T.length ≤ 5864062014805; rw [HLN.out]; have := HM.out; omega)).mono ?_); rintro e w3 ⟨v2, rfl, hg, hb⟩; obtain ⟨p2, c2, hv2⟩ := hg.slc; replace hv2 : v2 = .slice p2 T.length c2 := hv2; rw [HLN.out] at hv2; subst hv2; have HX3 := hid (HX2.out.bel hb); have HG3 := hid (show SlG kAg (· < w3.heap.size) w3 (.slice p2 m c2) T from hg.sl (by show T.length ≤ _; rw [HLN.out]; have := HM.out; omega)); have HB3 := hid (HB2.out.trans (hb.mono HB2.out.size)); have HG2 := hid (HG2.out.below hb); clear hg hb)
  clear n0 n1 n2 n3 n4 n5 n6
  obtain ⟨w4, hw4⟩ : ∃ W, w3.alloc (.cells #[.int .u8 (x.kind : Int), .int .u8 (x.op : Int), .string ⟨x.dst.toArray⟩, .string ⟨x.nm.toArray⟩, .slice p2 m c2, .int .i64 x.pos.1, .int .i64 x.pos.2] 26) = W := ⟨_, rfl⟩
  have hb4 : Below w3.heap.size w3 w4 := by rw [← hw4]; exact (Below.refl _ _).alloc (Nat.le_refl _) _
  have HY4 := hid (show BxL 26 w3.heap.size [.int .u8 (x.kind : Int), .int .u8 (x.op : Int), .string ⟨x.dst.toArray⟩, .string ⟨x.nm.toArray⟩, .slice p2 m c2, .int .i64 x.pos.1, .int .i64 x.pos.2] w4 from by rw [← hw4]; exact BxL.new _ _ _)
  have HX4 := hid (HX3.out.bel hb4)
  have HB4 := hid (HB3.out.trans (hb4.mono HB3.out.size))
  have HG4 := hid (HG2.out.below hb4)
  have HK4 := hid (HG3.out.below hb4)
  rw [hw4]
  clear hw4 hb4
  have n0 : w4.cell? ⟨w3.heap.size, 0, none⟩ = some (.int .u8 (x.kind : Int)) := HY4.out.at 0 rfl
  have n1 : w4.cell? ⟨w3.heap.size, 1, none⟩ = some (.int .u8 (x.op : Int)) := HY4.out.at 1 rfl
  have n2 : w4.cell? ⟨w3.heap.size, 2, none⟩ = some (.string ⟨x.dst.toArray⟩) := HY4.out.at 2 rfl
  have n3 : w4.cell? ⟨w3.heap.size, 3, none⟩ = some (.string ⟨x.nm.toArray⟩) := HY4.out.at 3 rfl
  have n4 : w4.cell? ⟨w3.heap.size, 4, none⟩ = some (.slice p2 m c2) := HY4.out.at 4 rfl
  have n5 : w4.cell? ⟨w3.heap.size, 5, none⟩ = some (.int .i64 x.pos.1) := HY4.out.at 5 rfl
  have n6 : w4.cell? ⟨w3.heap.size, 6, none⟩ = some (.int .i64 x.pos.2) := HY4.out.at 6 rfl
  have HNN := hid (show ∀ a ∈ T, a.num < 18446744073709551616 from fun a h => HN.out a (HY.out a h))
  have HAA := hid (show ∀ a ∈ T, a.nm.length ≤ 140737488355328 from fun a h => HA.out a (HY.out a h))
  go_upto_region 4 with (go_at_call 8; (refine (instr_any ⟨x.kind, x.op, x.dst, x.nm, T, x.pos⟩ _ _ H8.out (by show T.length ≤ 100000; rw [HLN.out]; have := HM.out; omega) HNN.out HK4.out (HE.out.below HB4.out)).mono ?_); rintro e w5 ⟨rfl, hb⟩; rw [HSE.out]; have HX5 := hid (HX4.out.bel hb); have HY5 := hid (HY4.out.bel hb); have HB5 := hid (HB4.out.trans (hb.mono HB4.out.size)); have HG5 := hid (HG4.out.below hb); have HK5 := hid (HK4.out.below hb); clear hb)
  clear n0 n1 n2 n3 n4 n5 n6
  have n0 : w5.cell? ⟨w.heap.size, 0, none⟩ = some (.int .u8 (x.kind : Int)) := HX5.out.at 0 rfl
  have n1 : w5.cell? ⟨w.heap.size, 1, none⟩ = some (.int .u8 (x.op : Int)) := HX5.out.at 1 rfl
  have n2 : w5.cell? ⟨w.heap.size, 2, none⟩ = some (.string ⟨x.dst.toArray⟩) := HX5.out.at 2 rfl
  have n3 : w5.cell? ⟨w.heap.size, 3, none⟩ = some (.string ⟨x.nm.toArray⟩) := HX5.out.at 3 rfl
  have n4 : w5.cell? ⟨w.heap.size, 4, none⟩ = some (.slice p1 m c1) := HX5.out.at 4 rfl
  have n5 : w5.cell? ⟨w.heap.size, 5, none⟩ = some (.int .i64 x.pos.1) := HX5.out.at 5 rfl
  have n6 : w5.cell? ⟨w.heap.size, 6, none⟩ = some (.int .i64 x.pos.2) := HX5.out.at 6 rfl
  go_upto_region 5 with (go_at_call 9; (refine (rinstr_any ⟨x.kind, x.op, x.dst, x.nm, T, x.pos⟩ _ _ H8.out.2 HD.out.1 HD.out.2 HAA.out HNN.out HG5.out).mono ?_); rintro e w6 ⟨rfl, hb⟩; rw [HSE.out]; have HX6 := hid (HX5.out.bel hb); have HY6 := hid (HY5.out.bel hb); have HB6 := hid (HB5.out.trans (hb.mono HB5.out.size)); have HG6 := hid (HG5.out.below hb); have HK6 := hid (HK5.out.below hb); clear hb)
  clear n0 n1 n2 n3 n4 n5 n6
  have n0 : w6.cell? ⟨w.heap.size, 0, none⟩ = some (.int .u8 (x.kind : Int)) := HX6.out.at 0 rfl
  have n1 : w6.cell? ⟨w.heap.size, 1, none⟩ = some (.int .u8 (x.op : Int)) := HX6.out.at 1 rfl
  have n2 : w6.cell? ⟨w.heap.size, 2, none⟩ = some (.string ⟨x.dst.toArray⟩) := HX6.out.at 2 rfl
  have n3 : w6.cell? ⟨w.heap.size, 3, none⟩ = some (.string ⟨x.nm.toArray⟩) := HX6.out.at 3 rfl
  have n4 : w6.cell? ⟨w.heap.size, 4, none⟩ = some (.slice p1 m c1) := HX6.out.at 4 rfl
  have n5 : w6.cell? ⟨w.heap.size, 5, none⟩ = some (.int .i64 x.pos.1) := HX6.out.at 5 rfl
  have n6 : w6.cell? ⟨w.heap.size, 6, none⟩ = some (.int .i64 x.pos.2) := HX6.out.at 6 rfl
  have m0 : w6.cell? ⟨w3.heap.size, 0, none⟩ = some (.int .u8 (x.kind : Int)) := HY6.out.at 0 rfl
  have m1 : w6.cell? ⟨w3.heap.size, 1, none⟩ = some (.int .u8 (x.op : Int)) := HY6.out.at 1 rfl
  have m2 : w6.cell? ⟨w3.heap.size, 2, none⟩ = some (.string ⟨x.dst.toArray⟩) := HY6.out.at 2 rfl
  have m3 : w6.cell? ⟨w3.heap.size, 3, none⟩ = some (.string ⟨x.nm.toArray⟩) := HY6.out.at 3 rfl
  have m4 : w6.cell? ⟨w3.heap.size, 4, none⟩ = some (.slice p2 m c2) := HY6.out.at 4 rfl
  have m5 : w6.cell? ⟨w3.heap.size, 5, none⟩ = some (.int .i64 x.pos.1) := HY6.out.at 5 rfl
  have m6 : w6.cell? ⟨w3.heap.size, 6, none⟩ = some (.int .i64 x.pos.2) := HY6.out.at 6 rfl
  go_wp2_with (first
    | (go_at_call 10; (refine (eqinstr_same ⟨x.kind, x.op, x.dst, x.nm, T, x.pos⟩ _ _ _ HK6.out HG6.out).mono ?_); rintro e w7 ⟨rfl, hb⟩; have HB7 := hid (HB6.out.trans (hb.mono HB6.out.size)); clear hb n0 n1 n2 n3 n4 n5 n6 m0 m1 m2 m3 m4 m5 m6)
    | (go_at_call 11; (refine (awake24_any _ (HE.out.below HB7.out)).mono ?_); rintro e w8 ⟨rfl, hb⟩; have HB8 := hid (HB7.out.trans (hb.mono HB7.out.size)); clear hb))
  go_ret
  exact ⟨rfl, HB8.out⟩

end Go.Proofs.YtoofbgoeipijcaaDoor

namespace Go.Proofs.YtoofbgoeipijcaaDoor
set_option linter.unusedSimpArgs false
set_option linter.unusedVariables false
open Go.ChangeShapes Go.WideShapes Go.ChangeAt Go.RowKit Go.Joins

def u8v (c : UInt8) : Value := .int .u8 (c.toNat : Int)
/-- v is a slice that reads as these bytes. -/
def Bys (R : Nat → Prop) (w : World) (v : Value) (b : List UInt8) : Prop := Sl R w v (b.map u8v)
theorem Bys.op {R : Nat → Prop} {w : World} {v : Value} {xs : List UInt8} (h : Bys R w v xs) :
    ∃ p c, v = .slice p xs.length c ∧ xs.length ≤ c ∧ c ≤ maxLen ∧ xs.length ≤ 140737488355328 ∧ RowR R w p (xs.map u8v) := by
  obtain ⟨p, c, e, h1, h2, h3, hr⟩ := h
  rw [List.length_map] at e h1 h3
  exact ⟨p, c, e, h1, h2, h3, hr⟩
theorem Bys.keep {R R' : Nat → Prop} {w w' : World} {v : Value} {xs : List UInt8} (h : Bys R w v xs) (hf : ∀ k, R k → R' k ∧ w'.heap[k]? = w.heap[k]?) : Bys R' w' v xs := Sl.keep h hf
theorem Bys.below {R : Nat → Prop} {w w' : World} {v : Value} {xs : List UInt8} (h : Bys R w v xs) (hR : ∀ k, R k → k < w.heap.size) (hb : Below w.heap.size w w') : Bys R w' v xs := Sl.keep h fun k hk => ⟨hk, hb.block k (hR k hk)⟩
section
variable {H : Type} {enc : TypeId × Value → H} {W : World}
theorem wf_u8 {x : Int} (h : (Lit.int .u8 x).wf = true) : 0 ≤ x ∧ x ≤ 255 := by
  have h1 : IntKind.u8.min = 0 := by decide
  have h2 : IntKind.u8.max = 255 := by decide
  simp [Lit.wf] at h
  omega
theorem wf_u64 {x : Int} (h : (Lit.int .u64 x).wf = true) : 0 ≤ x ∧ x ≤ 18446744073709551615 := by
  have h1 : IntKind.u64.min = 0 := by decide
  have h2 : IntKind.u64.max = 18446744073709551615 := by decide
  simp [Lit.wf] at h
  omega
end
end Go.Proofs.YtoofbgoeipijcaaDoor
