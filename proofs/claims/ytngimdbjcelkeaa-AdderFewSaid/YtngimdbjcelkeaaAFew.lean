/-
  The walk of AdderFew.
-/
import Derived.Test.YtngimdbjcelkeaaFew
namespace Go.Proofs.Ytngimdbjcelkeaa
set_option linter.unusedSimpArgs false
set_option linter.unusedVariables false
open Go.RowKit Go.Shelf

set_option maxRecDepth 100000 in
set_option maxHeartbeats 6400000 in
theorem few_walk (z cr : Int) (vals : List Bool) (lx ly : List Int) (vv vx vy : Value) (w : World) (hz : -9223372036854775808 ≤ z ∧ z ≤ 9223372036854775807) (hcr : -9223372036854775808 ≤ cr ∧ cr ≤ 9223372036854775807)
    (hv : Bools (· < w.heap.size) w vv vals) (hx : Ints (· < w.heap.size) w vx lx) (hy : Ints (· < w.heap.size) w vy ly)
    (hlx : ∀ x ∈ lx, -9223372036854775808 ≤ x ∧ x ≤ 9223372036854775807) (hly : ∀ x ∈ ly, -9223372036854775808 ≤ x ∧ x ≤ 9223372036854775807) :
    Calls Try.prog 8 #[.agg #[.int .i64 z, vv, vx, vy], .int .i64 cr] w fun e w' => e = .returned (.bool true) ∧ Below w.heap.size w w' := by
  obtain ⟨wi, hwi⟩ : ∃ wi, (w.alloc (.cells #[.int .i64 z, vv, vx, vy] 25)).alloc (.cells #[.int .i64 cr] 3) = wi := ⟨_, rfl⟩
  have hb0 : Below w.heap.size w wi := by rw [← hwi]; exact ((Below.refl _ _).alloc (Nat.le_refl _) _).alloc (by simp) _
  have hsi : wi.heap.size = w.heap.size + 2 := by rw [← hwi]; simp only [World.size_alloc]
  have hci : wi.heap[w.heap.size + 1]? = some (.cells #[.int .i64 cr] 3 (0, 0)) := by rw [← hwi, heap_al, if_pos (by simp only [World.size_alloc])]
  have hk0 : ∀ k, k < w.heap.size → k < wi.heap.size ∧ wi.heap[k]? = w.heap[k]? := fun k hk => ⟨by omega, hb0.block k hk⟩
  have hmk := make_mk z vals lx ly vv vx vy wi hz (hv.keep hk0) (hx.keep hk0) (hy.keep hk0) hlx hly ((z % 64).toNat + 1) rfl
  have hW1 : 1 ≤ (z % 64).toNat + 1 := by omega
  have hW64 : (z % 64).toNat + 1 ≤ 64 := by omega
  generalize (z % 64).toNat + 1 = W at *
  obtain ⟨pv, cv, rfl, _, _, _, _⟩ := hv.op
  obtain ⟨px, cx, rfl, _, _, _, _⟩ := hx.op
  obtain ⟨py, cy, rfl, _, _, _, _⟩ := hy.op
  have HMK := hid hmk; have HB0 := hid hb0; have HWI := hid hwi; have HSI := hid hsi; have HCI := hid hci
  clear hmk hb0 hk0 hv hx hy hlx hly hwi hsi hci
  go_enter Try.func8, Try.ntmps8
  go_wp2_with fail
  rw [HWI.out]
  (with_reducible refine HMK.out.mono ?_)
  rintro e w3 ⟨bb, σ0, vin, vval, v1, v2, va, vb, xs, ys, rfl, hC, hxl, hyl, hxo, hyo, ix, iy, ia, ib, hbe, hbb, hlo⟩
  obtain ⟨pi, ci, rfl, _, _, _⟩ := hC.inp.opn (insM_len _)
  obtain ⟨pw, cw, rfl, _, _, _⟩ := hC.val.opn (valsM_len _ _)
  obtain ⟨p1, c1, rfl, _, _, _⟩ := ix.opn hxl
  obtain ⟨p2, c2, rfl, _, _, _⟩ := iy.opn hyl
  obtain ⟨p3, c3, rfl, _, _, _⟩ := ia.opn (n := W) (by rw [List.length_map]; exact hxl)
  obtain ⟨p4, c4, rfl, _, _, _⟩ := ib.opn (n := W) (by rw [List.length_map]; exact hyl)
  have hR := Run.mk (V := 2 * W + 1) (K := 1) (St.mk hC hbe hlo) hxl hyl hxo hyo rfl rfl ix iy ia ib (Nat.le_refl _) (Nat.le_refl _)
  have h3 : w3.heap[w.heap.size + 1]? = some (.cells #[.int .i64 cr] 3 (0, 0)) := (hbe.block _ (by rw [HSI.out]; omega)).trans HCI.out
  have a3 := hlo (w.heap.size + 1) (by rw [HSI.out]; omega)
  have hl3 : w.heap.size + 1 < w3.heap.size := by have := hbe.size; rw [HSI.out] at this; omega
  obtain ⟨w4, hw4⟩ : ∃ w4, ((w3.alloc (.cells #[.pointer (some ⟨bb, 0, none⟩), .slice pi (2 * W) ci, .slice pw (2 * W) cw] 28)).alloc (.cells #[.slice p1 W c1] 23)).alloc (.cells #[.slice p2 W c2] 23) = w4 := ⟨_, rfl⟩
  have hb4 : Below w3.heap.size w3 w4 := by rw [← hw4]; exact (((Below.refl _ _).alloc (Nat.le_refl _) _).alloc (by simp) _).alloc (by simp only [World.size_alloc]; omega) _
  have hs4 : w4.heap.size = w3.heap.size + 3 := by rw [← hw4]; simp only [World.size_alloc]
  have f3 : w4.cell? ⟨w.heap.size + 1, 0, none⟩ = some (.int .i64 cr) := by rw [cell_of_cells ((hb4.block _ hl3).trans h3)]; rfl
  have e5 : w4.heap[w3.heap.size]? = some (.cells #[.pointer (some ⟨bb, 0, none⟩), .slice pi (2 * W) ci, .slice pw (2 * W) cw] 28 (0, 0)) := by
    rw [← hw4, heap_al, if_neg (by simp only [World.size_alloc]; omega), heap_al, if_neg (by simp only [World.size_alloc]; omega), heap_al, if_pos rfl]
  have e6 : w4.heap[w3.heap.size + 1]? = some (.cells #[.slice p1 W c1] 23 (0, 0)) := by
    rw [← hw4, heap_al, if_neg (by simp only [World.size_alloc]; omega), heap_al, if_pos (by simp only [World.size_alloc])]
  have e7 : w4.heap[w3.heap.size + 1 + 1]? = some (.cells #[.slice p2 W c2] 23 (0, 0)) := by
    rw [← hw4, heap_al, if_pos (by simp only [World.size_alloc])]
  rw [← hw4] at f3
  have HW4 := hid hw4; have HB4 := hid hb4; have HS4 := hid hs4; have E5 := hid e5; have E6 := hid e6; have E7 := hid e7
  clear hw4 hb4 hs4 e5 e6 e7
  have HR := hid hR; have HBE := hid hbe; have H3 := hid h3; have A3 := hid a3
  clear hC hbe hlo hxl hyl hxo hyo ix iy ia ib hbb hR h3 a3
  generalize xs.map (litT σ0) = ax at *
  generalize ys.map (litT σ0) = ay at *
  go_wp2_with fail
  rw [HW4.out]
  have hR4 := HR.out.fr HB4.out
  have hb4 : ∀ k, w3.heap.size ≤ k → k < w4.heap.size → Away bb w4 k := fun k => HR.out.st.c.b.away_new HB4.out
  have hs4 := HS4.out
  have o5 : Own bb w4 w3.heap.size _ := ⟨hb4 _ (Nat.le_refl _) (by omega), E5.out⟩
  have o6 : Own bb w4 (w3.heap.size + 1) _ := ⟨hb4 _ (by omega) (by omega), E6.out⟩
  have o7 : Own bb w4 (w3.heap.size + 1 + 1) _ := ⟨hb4 _ (by omega) (by omega), E7.out⟩
  have o3 : Own bb w4 (w.heap.size + 1) _ := (show Own bb w3 (w.heap.size + 1) _ from ⟨A3.out, H3.out⟩).fr (FrB.of_below HR.out.st.c.b HB4.out)
  have HPK := hid (pick_any bb _ σ0 _ _ _ cr w4 hR4.st.c hcr)
  have HR4 := hid hR4; have O5 := hid o5; have O6 := hid o6; have O7 := hid o7; have O3 := hid o3
  clear hR4 hb4 o5 o6 o7 o3 f3 HR
  (with_reducible refine HPK.out.mono ?_)
  rintro e w5 ⟨lit, bc, rfl, hlo, hlb, hb5⟩
  have hR5 := HR4.out.fr hb5
  have hf5 := FrB.of_below HR4.out.st.c.b hb5
  have hb6 : Below w5.heap.size w5 (w5.alloc (.cells #[.int .i64 lit] 3)) := (Below.refl _ _).alloc (Nat.le_refl _) _
  have hf6 := FrB.of_below hR5.st.c.b hb6
  have c6 : (w5.alloc (.cells #[.int .i64 lit] 3)).heap[w5.heap.size]? = some (.cells #[.int .i64 lit] 3 (0, 0)) := by rw [heap_al, if_pos rfl]
  have hF : Few _ bb W xs ys ax ay _ _ _ _ _ _ w3.heap.size (w3.heap.size + 1) (w3.heap.size + 1 + 1) w5.heap.size (w.heap.size + 1) lit cr bc _ _ (w5.alloc (.cells #[.int .i64 lit] 3)) σ0 _ :=
    ⟨hR5.fr hb6, (O5.out.fr hf5).fr hf6, (O6.out.fr hf5).fr hf6, (O7.out.fr hf5).fr hf6, ⟨hR5.st.c.b.away_new hb6 (Nat.le_refl _) (by simp), c6⟩, (O3.out.fr hf5).fr hf6, ⟨hlo, hlb⟩⟩
  have HF := hid hF
  have HC2 := hid (few1_2 hF hW1 hW64 (by omega) (by omega))
  clear hlo hlb hb5 hR5 hf5 hb6 hf6 c6 hF HPK HR4 O5 O6 O7 O3
  go_wp2_with fail
  (with_reducible refine HC2.out.mono ?_)
  rintro e u2 ⟨σ2, F2, rfl, hN2⟩
  have HC3 := hid (few1_3 hN2 hW1 hW64 (by omega) (by omega))
  clear hN2 HC2
  go_wp2_with fail
  (with_reducible refine HC3.out.mono ?_)
  rintro e u3 ⟨σ3, F3, rfl, hN3⟩
  have HC4 := hid (few1_4 hN3 hW1 hW64 (by omega) (by omega))
  clear hN3 HC3
  go_wp2_with fail
  (with_reducible refine HC4.out.mono ?_)
  rintro e u4 ⟨σ4, F4, rfl, hN4⟩
  have HC5 := hid (few1_5 hN4 hW1 hW64 (by omega) (by omega))
  clear hN4 HC4
  go_wp2_with fail
  (with_reducible refine HC5.out.mono ?_)
  rintro e u5 ⟨σ5, F5, rfl, hN5⟩
  have HC6 := hid (few1_6 hN5 hW1 hW64 (by omega) (by omega))
  clear hN5 HC5
  go_wp2_with fail
  (with_reducible refine HC6.out.mono ?_)
  rintro e u6 ⟨σ6, F6, rfl, hN6⟩
  have HC7 := hid (few1_7 hN6 hW1 hW64 (by omega) (by omega))
  clear hN6 HC6
  go_wp2_with fail
  (with_reducible refine HC7.out.mono ?_)
  rintro e u7 ⟨σ7, F7, rfl, hN7⟩
  go_wp2_with fail
  (with_reducible refine (awake_any _).mono ?_)
  rintro e w9 ⟨rfl, hb9⟩
  have hbF := below_tr' (below_tr' HB0.out hN7.run.st.fr (Nat.le_refl _)) hb9 (Nat.le_refl _)
  have HBF := hid hbF
  clear hbF hb9 hN7 HC7
  go_wp2
  go_ret
  exact ⟨rfl, HBF.out⟩
end Go.Proofs.Ytngimdbjcelkeaa
