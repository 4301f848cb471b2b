/-
  The walks of package kit's EqualWitness and EqualVerdict.
-/
import Derived.Test.YtehjfmbnebeioaaDoorRpA
namespace Go.Proofs.YtehjfmbnebeioaaDoor
set_option linter.unusedSimpArgs false
set_option linter.unusedVariables false
open Go.RowKit Go.Shelf
attribute [local go_sem] Oper.semAt_some

theorem int_eqB (x y : Int) : (x == y) = decide (x = y) := by by_cases h : x = y <;> simp [h]

def witB (lv lv2 : Int) (A A2 B B2 : List (List Nat)) (imp imp2 : Bool) : Bool := decide (lv = lv2) && (decide (A = A2) && (decide (B = B2) && decide (imp = imp2)))
set_option maxRecDepth 100000 in
set_option maxHeartbeats 2000000 in
theorem eqwit_any (lv lv2 : Int) (A A2 B B2 : List (List Nat)) (imp imp2 : Bool) (pA pB pA2 pB2 : Option Addr) (cA cB cA2 cB2 : Nat) (R R' : Nat → Prop) (w : World) (hR : ∀ i, R i → i < w.heap.size) (hR' : ∀ i, R' i → i < w.heap.size) (hA : NLL R w (.slice pA A.length cA) A) (hB : NLL R w (.slice pB B.length cB) B) (hA2 : NLL R' w (.slice pA2 A2.length cA2) A2) (hB2 : NLL R' w (.slice pB2 B2.length cB2) B2) :
    Calls Tryd.prog 32 #[.agg #[.int .i64 lv, .slice pA A.length cA, .slice pB B.length cB, .bool imp], .agg #[.int .i64 lv2, .slice pA2 A2.length cA2, .slice pB2 B2.length cB2, .bool imp2]] w fun e w' => e = .returned (.bool (witB lv lv2 A A2 B B2 imp imp2)) ∧ Below w.heap.size w w' := by
  have HI1 := hid (fun W (hW : Below w.heap.size w W) => eqinputs_any A A2 _ _ _ _ W (hA.grow (R' := fun i => i < w.heap.size) hW hR fun i hi => hi) (hA2.grow (R' := fun i => i < w.heap.size) hW hR' fun i hi => hi))
  have HI2 := hid (fun W (hW : Below w.heap.size w W) => eqinputs_any B B2 _ _ _ _ W (hB.grow (R' := fun i => i < w.heap.size) hW hR fun i hi => hi) (hB2.grow (R' := fun i => i < w.heap.size) hW hR' fun i hi => hi))
  clear hR hR' hA hB hA2 hB2
  have HQ := hid (show witB lv lv2 A A2 B B2 imp imp2 = (decide (lv = lv2) && (decide (A = A2) && (decide (B = B2) && decide (imp = imp2)))) from rfl)
  generalize witB lv lv2 A A2 B B2 imp imp2 = res at *
  generalize decide (A = A2) = a at *
  generalize decide (B = B2) = b at *
  have HB0 := hid (((Below.refl w.heap.size w).alloc (Nat.le_refl _) (.cells #[.int .i64 lv, .slice pA A.length cA, .slice pB B.length cB, .bool imp] 31)).alloc (by rw [World.size_alloc]; omega) (.cells #[.int .i64 lv2, .slice pA2 A2.length cA2, .slice pB2 B2.length cB2, .bool imp2] 31))
  by_cases h1 : lv = lv2
  · have a1 : (lv == lv2) = true := by rw [beq_iff_eq]; exact h1
    have d1 := decide_eq_true h1
    have HD1 := hid d1
    have HH1 := hid h1
    clear d1 h1
    cases a <;> cases b <;> cases imp <;> cases imp2 <;> (
      go_enter Tryd.func32, Tryd.ntmps32
      go_wp2_with (first
        | (go_at_call 46; with_reducible refine (HI1.out _ HB0.out).mono ?_; rintro e w1 ⟨rfl, n1, rfl⟩)
        | (go_at_call 46; refine (HI2.out _ (below_drewNR HB0.out _)).mono ?_; rintro e w2 ⟨rfl, n2, rfl⟩))
      go_ret
      rw [HQ.out, HD1.out]
      exact ⟨rfl, by first | exact HB0.out | exact below_drewNR HB0.out _ | exact below_drewNR (below_drewNR HB0.out _) _⟩)
  · have a1 : (lv == lv2) = false := by rw [beq_eq_false_iff_ne]; exact h1
    have d1 := decide_eq_false h1
    have HD1 := hid d1
    have HH1 := hid h1
    clear d1 h1
    go_enter Tryd.func32, Tryd.ntmps32
    go_wp2
    go_ret
    rw [HQ.out, HD1.out]
    exact ⟨rfl, HB0.out⟩

def vdB (v u : Vd) : Bool := decide (v.kind = u.kind) && (decide (v.reason = u.reason) && (witB v.level u.level v.A u.A v.B u.B v.imp u.imp && (decide (v.pol = u.pol) && ((decide (v.line = u.line) && decide (v.col = u.col)) && decide (v.err = u.err)))))
set_option maxRecDepth 100000 in
set_option maxHeartbeats 2000000 in
theorem eqvd_any (k k2 r r2 : Nat) (lv lv2 : Int) (A A2 B B2 : List (List Nat)) (imp imp2 pol pol2 : Bool) (ln ln2 co co2 er er2 : Int) (pA pB pA2 pB2 : Option Addr) (cA cB cA2 cB2 : Nat) (R R' : Nat → Prop) (w : World) (hR : ∀ i, R i → i < w.heap.size) (hR' : ∀ i, R' i → i < w.heap.size) (hA : NLL R w (.slice pA A.length cA) A) (hB : NLL R w (.slice pB B.length cB) B) (hA2 : NLL R' w (.slice pA2 A2.length cA2) A2) (hB2 : NLL R' w (.slice pB2 B2.length cB2) B2) :
    Calls Tryd.prog 18 #[.agg #[.int .u8 (k : Int), .int .u8 (r : Int), .int .i64 lv, .slice pA A.length cA, .slice pB B.length cB, .bool imp, .bool pol, .int .i64 ln, .int .i64 co, .int .i64 er], .agg #[.int .u8 (k2 : Int), .int .u8 (r2 : Int), .int .i64 lv2, .slice pA2 A2.length cA2, .slice pB2 B2.length cB2, .bool imp2, .bool pol2, .int .i64 ln2, .int .i64 co2, .int .i64 er2]] w fun e w' => e = .returned (.bool (vdB ⟨k, r, lv, A, B, imp, pol, ln, co, er⟩ ⟨k2, r2, lv2, A2, B2, imp2, pol2, ln2, co2, er2⟩)) ∧ Below w.heap.size w w' := by
  have HI := hid (fun W (hW : Below w.heap.size w W) => eqwit_any lv lv2 A A2 B B2 imp imp2 pA pB pA2 pB2 cA cB cA2 cB2 (fun i => i < w.heap.size) (fun i => i < w.heap.size) W (fun i hi => by have := hW.size; have hi : i < w.heap.size := hi; omega) (fun i hi => by have := hW.size; have hi : i < w.heap.size := hi; omega) (hA.grow (R' := fun i => i < w.heap.size) hW hR fun i hi => hi) (hB.grow (R' := fun i => i < w.heap.size) hW hR fun i hi => hi) (hA2.grow (R' := fun i => i < w.heap.size) hW hR' fun i hi => hi) (hB2.grow (R' := fun i => i < w.heap.size) hW hR' fun i hi => hi))
  clear hR hR' hA hB hA2 hB2
  have HQ := hid (show vdB ⟨k, r, lv, A, B, imp, pol, ln, co, er⟩ ⟨k2, r2, lv2, A2, B2, imp2, pol2, ln2, co2, er2⟩ = (decide (k = k2) && (decide (r = r2) && (witB lv lv2 A A2 B B2 imp imp2 && (decide (pol = pol2) && ((decide (ln = ln2) && decide (co = co2)) && decide (er = er2)))))) from rfl)
  generalize vdB _ _ = res at *
  have HB0 := hid (((Below.refl w.heap.size w).alloc (Nat.le_refl _) (.cells #[.int .u8 (k : Int), .int .u8 (r : Int), .int .i64 lv, .slice pA A.length cA, .slice pB B.length cB, .bool imp, .bool pol, .int .i64 ln, .int .i64 co, .int .i64 er] 35)).alloc (by rw [World.size_alloc]; omega) (.cells #[.int .u8 (k2 : Int), .int .u8 (r2 : Int), .int .i64 lv2, .slice pA2 A2.length cA2, .slice pB2 B2.length cB2, .bool imp2, .bool pol2, .int .i64 ln2, .int .i64 co2, .int .i64 er2] 35))
  have HCELL := hid (fun w1 (hb : Below ((w.alloc (.cells #[.int .u8 (k : Int), .int .u8 (r : Int), .int .i64 lv, .slice pA A.length cA, .slice pB B.length cB, .bool imp, .bool pol, .int .i64 ln, .int .i64 co, .int .i64 er] 35)).alloc (.cells #[.int .u8 (k2 : Int), .int .u8 (r2 : Int), .int .i64 lv2, .slice pA2 A2.length cA2, .slice pB2 B2.length cB2, .bool imp2, .bool pol2, .int .i64 ln2, .int .i64 co2, .int .i64 er2] 35)).heap.size ((w.alloc (.cells #[.int .u8 (k : Int), .int .u8 (r : Int), .int .i64 lv, .slice pA A.length cA, .slice pB B.length cB, .bool imp, .bool pol, .int .i64 ln, .int .i64 co, .int .i64 er] 35)).alloc (.cells #[.int .u8 (k2 : Int), .int .u8 (r2 : Int), .int .i64 lv2, .slice pA2 A2.length cA2, .slice pB2 B2.length cB2, .bool imp2, .bool pol2, .int .i64 ln2, .int .i64 co2, .int .i64 er2] 35)) w1) => show w1.cell? ⟨w.heap.size, 6, none⟩ = some (.bool pol) ∧ w1.cell? ⟨w.heap.size, 7, none⟩ = some (.int .i64 ln) ∧ w1.cell? ⟨w.heap.size, 8, none⟩ = some (.int .i64 co) ∧ w1.cell? ⟨w.heap.size, 9, none⟩ = some (.int .i64 er) ∧ w1.cell? ⟨w.heap.size + 1, 6, none⟩ = some (.bool pol2) ∧ w1.cell? ⟨w.heap.size + 1, 7, none⟩ = some (.int .i64 ln2) ∧ w1.cell? ⟨w.heap.size + 1, 8, none⟩ = some (.int .i64 co2) ∧ w1.cell? ⟨w.heap.size + 1, 9, none⟩ = some (.int .i64 er2) from by
    have e1 : w1.heap[w.heap.size]? = some (.cells #[.int .u8 (k : Int), .int .u8 (r : Int), .int .i64 lv, .slice pA A.length cA, .slice pB B.length cB, .bool imp, .bool pol, .int .i64 ln, .int .i64 co, .int .i64 er] 35 (0, 0)) := (hb.block _ (by rw [World.size_alloc, World.size_alloc]; omega)).trans (by rw [heap_al, if_neg (by rw [World.size_alloc]; omega), heap_al, if_pos rfl])
    have e2 : w1.heap[w.heap.size + 1]? = some (.cells #[.int .u8 (k2 : Int), .int .u8 (r2 : Int), .int .i64 lv2, .slice pA2 A2.length cA2, .slice pB2 B2.length cB2, .bool imp2, .bool pol2, .int .i64 ln2, .int .i64 co2, .int .i64 er2] 35 (0, 0)) := (hb.block _ (by rw [World.size_alloc, World.size_alloc]; omega)).trans (by rw [heap_al, if_pos (by rw [World.size_alloc])])
    exact ⟨by rw [cell_of_row w1 _ 6 _ _ _ e1]; rfl, by rw [cell_of_row w1 _ 7 _ _ _ e1]; rfl, by rw [cell_of_row w1 _ 8 _ _ _ e1]; rfl, by rw [cell_of_row w1 _ 9 _ _ _ e1]; rfl, by rw [cell_of_row w1 _ 6 _ _ _ e2]; rfl, by rw [cell_of_row w1 _ 7 _ _ _ e2]; rfl, by rw [cell_of_row w1 _ 8 _ _ _ e2]; rfl, by rw [cell_of_row w1 _ 9 _ _ _ e2]; rfl⟩)
  generalize witB lv lv2 A A2 B B2 imp imp2 = wb at *
  by_cases h1 : k = k2
  · have a1 : ((k : Int) == (k2 : Int)) = true := by rw [beq_iff_eq]; omega
    have HH1 := hid h1
    clear h1
    by_cases h2 : r = r2
    · have a2 : ((r : Int) == (r2 : Int)) = true := by rw [beq_iff_eq]; omega
      have HH2 := hid h2
      clear h2
      cases wb with
      | false =>
        go_enter Tryd.func18, Tryd.ntmps18
        go_wp2_with (go_at_call 32; with_reducible refine (HI.out _ HB0.out).mono ?_; rintro e w1 ⟨rfl, hb1⟩; obtain ⟨c1, c2, c3, c4, c5, c6, c7, c8⟩ := HCELL.out w1 hb1; clear HCELL)
        go_ret
        rw [HQ.out]
        exact ⟨by simp, HB0.out.trans (hb1.mono HB0.out.size)⟩
      | true =>
        by_cases h4 : ln = ln2
        · by_cases h5 : co = co2
          · have a4 : (ln == ln2) = true := by rw [beq_iff_eq]; exact h4
            have a5 : (co == co2) = true := by rw [beq_iff_eq]; exact h5
            have HH4 := hid (And.intro h4 h5)
            clear h4 h5
            by_cases h6 : er = er2
            · have a6 : (er == er2) = true := by rw [beq_iff_eq]; exact h6
              have HH6 := hid h6
              clear h6
              cases pol <;> cases pol2 <;> (
                go_enter Tryd.func18, Tryd.ntmps18
                go_wp2_with (go_at_call 32; with_reducible refine (HI.out _ HB0.out).mono ?_; rintro e w1 ⟨rfl, hb1⟩; obtain ⟨c1, c2, c3, c4, c5, c6, c7, c8⟩ := HCELL.out w1 hb1; clear HCELL)
                go_ret
                rw [HQ.out]
                exact ⟨by simp [HH1.out, HH2.out, HH4.out, HH6.out], HB0.out.trans (hb1.mono HB0.out.size)⟩)
            · have a6 : (er == er2) = false := by rw [beq_eq_false_iff_ne]; exact h6
              have HH6 := hid h6
              clear h6
              cases pol <;> cases pol2 <;> (
                go_enter Tryd.func18, Tryd.ntmps18
                go_wp2_with (go_at_call 32; with_reducible refine (HI.out _ HB0.out).mono ?_; rintro e w1 ⟨rfl, hb1⟩; obtain ⟨c1, c2, c3, c4, c5, c6, c7, c8⟩ := HCELL.out w1 hb1; clear HCELL)
                go_ret
                rw [HQ.out]
                exact ⟨by simp [HH6.out], HB0.out.trans (hb1.mono HB0.out.size)⟩)
          · have a4 : (ln == ln2) = true := by rw [beq_iff_eq]; exact h4
            have a5 : (co == co2) = false := by rw [beq_eq_false_iff_ne]; exact h5
            have HH4 := hid h5
            clear h4 h5
            cases pol <;> cases pol2 <;> (
              go_enter Tryd.func18, Tryd.ntmps18
              go_wp2_with (go_at_call 32; with_reducible refine (HI.out _ HB0.out).mono ?_; rintro e w1 ⟨rfl, hb1⟩; obtain ⟨c1, c2, c3, c4, c5, c6, c7, c8⟩ := HCELL.out w1 hb1; clear HCELL)
              go_ret
              rw [HQ.out]
              exact ⟨by simp [HH4.out], HB0.out.trans (hb1.mono HB0.out.size)⟩)
        · have a4 : (ln == ln2) = false := by rw [beq_eq_false_iff_ne]; exact h4
          have HH4 := hid h4
          clear h4
          cases pol <;> cases pol2 <;> (
            go_enter Tryd.func18, Tryd.ntmps18
            go_wp2_with (go_at_call 32; with_reducible refine (HI.out _ HB0.out).mono ?_; rintro e w1 ⟨rfl, hb1⟩; obtain ⟨c1, c2, c3, c4, c5, c6, c7, c8⟩ := HCELL.out w1 hb1; clear HCELL)
            go_ret
            rw [HQ.out]
            exact ⟨by simp [HH4.out], HB0.out.trans (hb1.mono HB0.out.size)⟩)
    · have a2 : ((r : Int) == (r2 : Int)) = false := by rw [beq_eq_false_iff_ne]; omega
      have HH2 := hid h2
      clear h2
      go_enter Tryd.func18, Tryd.ntmps18
      go_wp2
      go_ret
      rw [HQ.out]
      exact ⟨by simp [HH2.out], HB0.out⟩
  · have a1 : ((k : Int) == (k2 : Int)) = false := by rw [beq_eq_false_iff_ne]; omega
    have HH1 := hid h1
    clear h1
    go_enter Tryd.func18, Tryd.ntmps18
    go_wp2
    go_ret
    rw [HQ.out]
    exact ⟨by simp [HH1.out], HB0.out⟩

end Go.Proofs.YtehjfmbnebeioaaDoor
