/-
  The reference of reports: Lines.
-/
import Derived.Test.YtehjfmbnebeioaaDoorReI
import Derived.Test.YtehjfmbnebeioaaDoorRpB
import Derived.Deep.DeepCutAuto
namespace Go.Proofs.YtehjfmbnebeioaaDoor
set_option linter.unusedSimpArgs false
set_option linter.unusedVariables false
open Go.RowKit Go.Shelf
attribute [local go_sem] Oper.semAt_some

theorem bare_bool : ∀ (k2 r0 k1 lv0 a b imp k3 pol ln co er : Bool), (!(!k2 && !r0) && !(!k1 && (!lv0 || a || b || imp)) && (k3 || (!pol && (ln && co) && er))) = !((!r0 && !k2) || ((!lv0 || imp || a || b) && !k1) || ((pol || !(ln && co) || !er) && !k3)) := by decide
theorem bare_fb (k r : Nat) (lv : Int) (A B : List (List Nat)) (imp pol : Bool) (ln co er : Int) : bareR (⟨k, r, lv, A, B, imp, pol, ln, co, er⟩ : Vd) = !(((decide (r ≠ 0) && decide (k ≠ 2)) || ((decide (lv ≠ 0) || imp || decide (0 < A.length) || decide (0 < B.length)) && decide (k ≠ 1)) || ((pol || !(decide (ln = 0) && decide (co = 0)) || decide (er ≠ 0)) && decide (k ≠ 3)))) := by
  have h := bare_bool (decide (k = 2)) (decide (r = 0)) (decide (k = 1)) (decide (lv = 0)) (decide (0 < A.length)) (decide (0 < B.length)) imp (decide (k = 3)) pol (decide (ln = 0)) (decide (co = 0)) (decide (er = 0))
  simp only [ne_eq, decide_not]
  rw [← h]
  unfold bareR
  simp only [ne_eq, decide_not]
def RP (r : List By × Int) (w : World) (e : Ending) (w' : World) : Prop := Below w.heap.size w w' ∧ ∃ p c, e = .returned (.tuple #[.slice p r.1.length c, .int .i64 r.2]) ∧ Strs (fun i => i < w'.heap.size) w' (.slice p r.1.length c) r.1
theorem rp_nil {r : List By × Int} {w w' : World} {x : Int} (h : r = ([], x)) (hb : Below w.heap.size w w') : RP r w (.returned (.tuple #[.slice none 0 0, .int .i64 x])) w' := by
  subst h; exact ⟨hb, none, 0, rfl, Strs.nil⟩
theorem itoa_le (n : Int) (h : -9223372036854775808 ≤ n ∧ n ≤ 9223372036854775807) : (Lib.itoa n).length ≤ 1000 := by
  unfold Lib.itoa
  split
  · rw [List.length_cons, Lib.decDigits_length]; have := nDigits_20 n.natAbs (by omega); omega
  · rw [Lib.decDigits_length]; have := nDigits_20 n.toNat (by omega); omega
set_option maxRecDepth 100000 in
set_option maxHeartbeats 8000000 in
theorem rlines_any (k r : Nat) (lv : Int) (A B : List (List Nat)) (imp pol : Bool) (ln co er : Int) (pA pB : Option Addr) (cA cB : Nat) (levels chans : List By) (vl vc : Value) (R : Nat → Prop) (w : World) (hv : VdOk (⟨k, r, lv, A, B, imp, pol, ln, co, er⟩ : Vd)) (hvl : Strs R w vl levels) (hvc : Strs R w vc chans) (hA : NLL R w (.slice pA A.length cA) A) (hB : NLL R w (.slice pB B.length cB) B) (hR : ∀ i, R i → i < w.heap.size)
    (hAl : ∀ l ∈ A, l.length ≤ 900) (hBl : ∀ l ∈ B, l.length ≤ 900) (hls : ∀ s ∈ levels, s.length ≤ 1000) (hcs : ∀ s ∈ chans, s.length ≤ 1000) (hcl : chans.length ≤ 1000000) :
    Calls Tryd.prog 29 #[.agg #[.int .u8 (k : Int), .int .u8 (r : Int), .int .i64 lv, .slice pA A.length cA, .slice pB B.length cB, .bool imp, .bool pol, .int .i64 ln, .int .i64 co, .int .i64 er], vl, vc] w (RP (vlinesR (⟨k, r, lv, A, B, imp, pol, ln, co, er⟩ : Vd) levels chans) w) := by
  obtain ⟨hk, hr, hlv0, hln, hco, her, hAn, hBn⟩ := hv
  obtain ⟨W0, hW0⟩ : ∃ W, w.alloc (.cells #[.int .u8 (k : Int), .int .u8 (r : Int), .int .i64 lv, .slice pA A.length cA, .slice pB B.length cB, .bool imp, .bool pol, .int .i64 ln, .int .i64 co, .int .i64 er] 35) = W := ⟨_, rfl⟩
  have hb0 : Below w.heap.size w W0 := by rw [← hW0]; exact (Below.refl _ _).alloc (Nat.le_refl _) _
  have hcb : W0.heap[w.heap.size]? = some (.cells #[.int .u8 (k : Int), .int .u8 (r : Int), .int .i64 lv, .slice pA A.length cA, .slice pB B.length cB, .bool imp, .bool pol, .int .i64 ln, .int .i64 co, .int .i64 er] 35 (0, 0)) := by rw [← hW0, heap_al, if_pos rfl]
  have HB0 := hid hb0; have HCB := hid hcb
  have c0 : W0.cell? ⟨w.heap.size, 0, none⟩ = some (.int .u8 (k : Int)) := by rw [cell_of_row W0 _ 0 _ _ _ hcb]; rfl
  have c1 : W0.cell? ⟨w.heap.size, 1, none⟩ = some (.int .u8 (r : Int)) := by rw [cell_of_row W0 _ 1 _ _ _ hcb]; rfl
  have c2 : W0.cell? ⟨w.heap.size, 2, none⟩ = some (.int .i64 lv) := by rw [cell_of_row W0 _ 2 _ _ _ hcb]; rfl
  have c3 : W0.cell? ⟨w.heap.size, 3, none⟩ = some (.slice pA A.length cA) := by rw [cell_of_row W0 _ 3 _ _ _ hcb]; rfl
  have c4 : W0.cell? ⟨w.heap.size, 4, none⟩ = some (.slice pB B.length cB) := by rw [cell_of_row W0 _ 4 _ _ _ hcb]; rfl
  have c5 : W0.cell? ⟨w.heap.size, 5, none⟩ = some (.bool imp) := by rw [cell_of_row W0 _ 5 _ _ _ hcb]; rfl
  have c6 : W0.cell? ⟨w.heap.size, 6, none⟩ = some (.bool pol) := by rw [cell_of_row W0 _ 6 _ _ _ hcb]; rfl
  have c7 : W0.cell? ⟨w.heap.size, 7, none⟩ = some (.int .i64 ln) := by rw [cell_of_row W0 _ 7 _ _ _ hcb]; rfl
  have c8 : W0.cell? ⟨w.heap.size, 8, none⟩ = some (.int .i64 co) := by rw [cell_of_row W0 _ 8 _ _ _ hcb]; rfl
  have c9 : W0.cell? ⟨w.heap.size, 9, none⟩ = some (.int .i64 er) := by rw [cell_of_row W0 _ 9 _ _ _ hcb]; rfl
  obtain ⟨pl, cl, rfl, gl1, gl2, gl3, hrl⟩ := hvl.op
  obtain ⟨pc, cc, rfl, gc1, gc2, gc3, hrc⟩ := hvc.op
  have HWW := hid hW0
  clear hb0 hcb hW0 hrl hrc
  have HVL := hid hvl; have HVC := hid hvc; have HNA := hid hA; have HNB := hid hB; have HR := hid hR; have HAn := hid hAn; have HBn := hid hBn; have HAl := hid hAl; have HBl := hid hBl; have HLS := hid hls; have HCS := hid hcs; have HLN := hid hln; have HCO := hid hco
  clear hvl hvc hA hB hR hAn hBn hAl hBl hls hcs hln hco
  by_cases h3 : 3 < k
  · have HV := hid (show vlinesR (⟨k, r, lv, A, B, imp, pol, ln, co, er⟩ : Vd) levels chans = ([], 3) from by unfold vlinesR; rw [if_pos h3])
    have t3 : decide (3 < (k : Int)) = true := decide_eq_true (by omega)
    go_enter Tryd.func29, Tryd.ntmps29
    go_upto_region 1 with fail
    rw [HWW.out]
    go_wp2_with fail
    go_ret2
    exact rp_nil HV.out HB0.out
  · have t3 : decide (3 < (k : Int)) = false := decide_eq_false (by omega)
    go_enter Tryd.func29, Tryd.ntmps29
    go_upto_region 1 with fail
    rw [HWW.out]
    go_upto_region 3 with fail
    obtain ⟨wb, hwb⟩ : ∃ b, (decide (lv ≠ 0) || imp || decide (0 < A.length) || decide (0 < B.length)) = b := ⟨_, rfl⟩
    have HWB := hid hwb
    obtain ⟨rb, hrb⟩ : ∃ b, (pol || !(decide (ln = 0) && decide (co = 0)) || decide (er ≠ 0)) = b := ⟨_, rfl⟩
    have HRB := hid hrb
    clear hwb hrb
    go_cut [8] (fun s8 wx => s8 = .bool wb ∧ wx = W0)
    case first =>
      by_cases hlv : lv ≠ 0
      · have t_lv : ((lv) != 0) = true := by rw [bne_iff_ne]; omega
        have Hhlv := hid hlv
        clear hlv
        go_wp2_with fail
        go_meet
        case rel => exact ⟨congrArg Value.bool (by (rw [← HWB.out]; simp [Hhlv.out]; done)), rfl⟩
      · have t_lv : (lv != 0) = false := by rw [bne_eq_false_iff_eq]; omega
        have Hhlv := hid hlv
        clear hlv
        cases imp
        · by_cases hia : 0 < A.length
          · have l1 : 0 < A.length := hia
            have Hhia := hid hia
            clear hia
            go_wp2_with fail
            go_meet
            case rel => exact ⟨congrArg Value.bool (by (rw [← HWB.out]; simp [Hhlv.out, Hhia.out]; done)), rfl⟩
          · have l1 : ¬ 0 < A.length := hia
            have Hhia := hid hia
            clear hia
            by_cases hib : 0 < B.length
            · have l2 : 0 < B.length := hib
              have Hhib := hid hib
              clear hib
              go_wp2_with fail
              go_meet
              case rel => exact ⟨congrArg Value.bool (by (rw [← HWB.out]; simp [Hhlv.out, Hhia.out, Hhib.out]; done)), rfl⟩
            · have l2 : ¬ 0 < B.length := hib
              have Hhib := hid hib
              clear hib
              go_wp2_with fail
              go_meet
              case rel => exact ⟨congrArg Value.bool (by (rw [← HWB.out]; simp [Hhlv.out, Hhia.out, Hhib.out]; done)), rfl⟩
        · go_wp2_with fail
          go_meet
          case rel => exact ⟨congrArg Value.bool (by (rw [← HWB.out]; simp [Hhlv.out]; done)), rfl⟩
    case rest =>
      obtain ⟨rfl, h9⟩ := hcut; have h9 := h9.symm; subst h9
      go_upto_region 4 with fail
      go_cut [9] (fun s9 wx => s9 = .bool rb ∧ wx = W0)
      case first =>
        cases pol
        · by_cases hl : ln = 0
          · have t_l : (ln = 0) = True := eq_true hl
            have Hhl := hid hl
            clear hl
            by_cases hc : co = 0
            · have t_c : (co = 0) = True := eq_true hc
              have Hhc := hid hc
              clear hc
              by_cases he : er = 0
              · have t_e : (er != 0) = false := by rw [bne_eq_false_iff_eq]; exact he
                have Hhe := hid he
                clear he
                go_wp2_with fail
                go_meet
                case rel => exact ⟨congrArg Value.bool (by (rw [← HRB.out]; simp [Hhl.out, Hhc.out, Hhe.out]; done)), rfl⟩
              · have t_e : (er != 0) = true := by rw [bne_iff_ne]; exact he
                have Hhe := hid he
                clear he
                go_wp2_with fail
                go_meet
                case rel => exact ⟨congrArg Value.bool (by (rw [← HRB.out]; simp [Hhl.out, Hhc.out, Hhe.out]; done)), rfl⟩
            · have t_c : (co = 0) = False := eq_false hc
              have Hhc := hid hc
              clear hc
              go_wp2_with fail
              go_meet
              case rel => exact ⟨congrArg Value.bool (by (rw [← HRB.out]; simp [Hhl.out, Hhc.out]; done)), rfl⟩
          · have t_l : (ln = 0) = False := eq_false hl
            have Hhl := hid hl
            clear hl
            go_wp2_with fail
            go_meet
            case rel => exact ⟨congrArg Value.bool (by (rw [← HRB.out]; simp [Hhl.out]; done)), rfl⟩
        · go_wp2_with fail
          go_meet
          case rel => exact ⟨congrArg Value.bool (by (rw [← HRB.out]; simp []; done)), rfl⟩
      case rest =>
        obtain ⟨rfl, h9⟩ := hcut; have h9 := h9.symm; subst h9
        go_upto_region 5 with fail
        obtain ⟨fb, hfb⟩ : ∃ b, ((decide (r ≠ 0) && decide (k ≠ 2)) || (wb && decide (k ≠ 1)) || (rb && decide (k ≠ 3))) = b := ⟨_, rfl⟩
        have HFB := hid hfb
        clear hfb
        go_cut [75] (fun s75 wx => s75 = .bool fb ∧ wx = W0)
        case first =>
          by_cases hr0 : r = 0
          · have t_r : ((r : Int) != 0) = false := by rw [bne_eq_false_iff_eq]; omega
            have Hhr0 := hid hr0
            clear hr0
            cases wb
            · cases rb
              · go_wp2_with fail
                go_meet
                case rel => exact ⟨congrArg Value.bool (by (rw [← HFB.out]; simp [Hhr0.out]; done)), rfl⟩
              · by_cases h9 : k = 3
                · have t_3 : ((k : Int) != 3) = false := by rw [bne_eq_false_iff_eq]; omega
                  have Hh9 := hid h9
                  clear h9
                  go_wp2_with fail
                  go_meet
                  case rel => exact ⟨congrArg Value.bool (by (rw [← HFB.out]; simp [Hhr0.out, Hh9.out]; done)), rfl⟩
                · have t_3 : ((k : Int) != 3) = true := by rw [bne_iff_ne]; omega
                  have Hh9 := hid h9
                  clear h9
                  go_wp2_with fail
                  go_meet
                  case rel => exact ⟨congrArg Value.bool (by (rw [← HFB.out]; simp [Hhr0.out, Hh9.out]; done)), rfl⟩
            · by_cases h1 : k = 1
              · have t_1 : ((k : Int) != 1) = false := by rw [bne_eq_false_iff_eq]; omega
                have Hh1 := hid h1
                clear h1
                cases rb
                · go_wp2_with fail
                  go_meet
                  case rel => exact ⟨congrArg Value.bool (by (rw [← HFB.out]; simp [Hhr0.out, Hh1.out]; done)), rfl⟩
                · by_cases h9 : k = 3
                  · have t_3 : ((k : Int) != 3) = false := by rw [bne_eq_false_iff_eq]; omega
                    have Hh9 := hid h9
                    clear h9
                    go_wp2_with fail
                    go_meet
                    case rel => exact ⟨congrArg Value.bool (by first | (rw [← HFB.out]; simp [Hhr0.out, Hh1.out, Hh9.out]; done) | (exfalso; have ah1 := Hh1.out; have ah9 := Hh9.out; omega)), rfl⟩
                  · have t_3 : ((k : Int) != 3) = true := by rw [bne_iff_ne]; omega
                    have Hh9 := hid h9
                    clear h9
                    go_wp2_with fail
                    go_meet
                    case rel => exact ⟨congrArg Value.bool (by (rw [← HFB.out]; simp [Hhr0.out, Hh1.out, Hh9.out]; done)), rfl⟩
              · have t_1 : ((k : Int) != 1) = true := by rw [bne_iff_ne]; omega
                have Hh1 := hid h1
                clear h1
                go_wp2_with fail
                go_meet
                case rel => exact ⟨congrArg Value.bool (by (rw [← HFB.out]; simp [Hhr0.out, Hh1.out]; done)), rfl⟩
          · have t_r : ((r : Int) != 0) = true := by rw [bne_iff_ne]; omega
            have Hhr0 := hid hr0
            clear hr0
            by_cases h2 : k = 2
            · have t_2 : ((k : Int) != 2) = false := by rw [bne_eq_false_iff_eq]; omega
              have Hh2 := hid h2
              clear h2
              cases wb
              · cases rb
                · go_wp2_with fail
                  go_meet
                  case rel => exact ⟨congrArg Value.bool (by (rw [← HFB.out]; simp [Hhr0.out, Hh2.out]; done)), rfl⟩
                · by_cases h9 : k = 3
                  · have t_3 : ((k : Int) != 3) = false := by rw [bne_eq_false_iff_eq]; omega
                    have Hh9 := hid h9
                    clear h9
                    go_wp2_with fail
                    go_meet
                    case rel => exact ⟨congrArg Value.bool (by first | (rw [← HFB.out]; simp [Hhr0.out, Hh2.out, Hh9.out]; done) | (exfalso; have ah2 := Hh2.out; have ah9 := Hh9.out; omega)), rfl⟩
                  · have t_3 : ((k : Int) != 3) = true := by rw [bne_iff_ne]; omega
                    have Hh9 := hid h9
                    clear h9
                    go_wp2_with fail
                    go_meet
                    case rel => exact ⟨congrArg Value.bool (by (rw [← HFB.out]; simp [Hhr0.out, Hh2.out, Hh9.out]; done)), rfl⟩
              · by_cases h1 : k = 1
                · have t_1 : ((k : Int) != 1) = false := by rw [bne_eq_false_iff_eq]; omega
                  have Hh1 := hid h1
                  clear h1
                  cases rb
                  · go_wp2_with fail
                    go_meet
                    case rel => exact ⟨congrArg Value.bool (by first | (rw [← HFB.out]; simp [Hhr0.out, Hh2.out, Hh1.out]; done) | (exfalso; have ah2 := Hh2.out; have ah1 := Hh1.out; omega)), rfl⟩
                  · by_cases h9 : k = 3
                    · have t_3 : ((k : Int) != 3) = false := by rw [bne_eq_false_iff_eq]; omega
                      have Hh9 := hid h9
                      clear h9
                      go_wp2_with fail
                      go_meet
                      case rel => exact ⟨congrArg Value.bool (by first | (rw [← HFB.out]; simp [Hhr0.out, Hh2.out, Hh1.out, Hh9.out]; done) | (exfalso; have ah2 := Hh2.out; have ah1 := Hh1.out; have ah9 := Hh9.out; omega)), rfl⟩
                    · have t_3 : ((k : Int) != 3) = true := by rw [bne_iff_ne]; omega
                      have Hh9 := hid h9
                      clear h9
                      go_wp2_with fail
                      go_meet
                      case rel => exact ⟨congrArg Value.bool (by first | (rw [← HFB.out]; simp [Hhr0.out, Hh2.out, Hh1.out, Hh9.out]; done) | (exfalso; have ah2 := Hh2.out; have ah1 := Hh1.out; omega)), rfl⟩
                · have t_1 : ((k : Int) != 1) = true := by rw [bne_iff_ne]; omega
                  have Hh1 := hid h1
                  clear h1
                  go_wp2_with fail
                  go_meet
                  case rel => exact ⟨congrArg Value.bool (by (rw [← HFB.out]; simp [Hhr0.out, Hh2.out, Hh1.out]; done)), rfl⟩
            · have t_2 : ((k : Int) != 2) = true := by rw [bne_iff_ne]; omega
              have Hh2 := hid h2
              clear h2
              go_wp2_with fail
              go_meet
              case rel => exact ⟨congrArg Value.bool (by (rw [← HFB.out]; simp [Hhr0.out, Hh2.out]; done)), rfl⟩
        case rest =>
          obtain ⟨rfl, h9⟩ := hcut; have h9 := h9.symm; subst h9
          cases fb
          · have HBR := hid (show bareR (⟨k, r, lv, A, B, imp, pol, ln, co, er⟩ : Vd) = true from by rw [bare_fb, HWB.out, HRB.out, HFB.out]; rfl)
            by_cases hk1 : k = 1
            · have t_k1 : ((k : Int) == 1) = true := by rw [beq_iff_eq]; omega
              have HVL0 := hid (show vlinesR (⟨k, r, lv, A, B, imp, pol, ln, co, er⟩ : Vd) levels chans = leakR (⟨k, r, lv, A, B, imp, pol, ln, co, er⟩ : Vd) levels chans from by unfold vlinesR; rw [if_neg h3, if_neg (by rw [HBR.out]; decide), if_pos hk1])
              have HK1 := hid hk1
              clear hk1
              by_cases g1 : lv < 0
              · have HV := hid (show vlinesR (⟨k, r, lv, A, B, imp, pol, ln, co, er⟩ : Vd) levels chans = ([], 3) from by rw [HVL0.out]; unfold leakR; rw [if_pos (.inl g1)])
                have a1 : decide (lv < 0) = true := decide_eq_true g1
                clear g1
                go_wp2_with fail
                go_ret2
                exact rp_nil HV.out HB0.out
              · obtain ⟨n, rfl⟩ : ∃ n : Nat, lv = n := ⟨lv.toNat, by omega⟩
                have a1 : decide ((n : Int) < 0) = false := decide_eq_false (by omega)
                by_cases g2 : levels.length ≤ n
                · have HV := hid (show vlinesR (⟨k, r, (n : Int), A, B, imp, pol, ln, co, er⟩ : Vd) levels chans = ([], 3) from by rw [HVL0.out]; unfold leakR; rw [if_pos (.inr (by dsimp only; omega))])
                  go_wp2_with fail
                  go_ret2
                  exact rp_nil HV.out HB0.out
                · have a2 : ¬ levels.length ≤ n := g2
                  by_cases g3 : chans.length < A.length
                  · have HV := hid (show vlinesR (⟨k, r, (n : Int), A, B, imp, pol, ln, co, er⟩ : Vd) levels chans = ([], 5) from by rw [HVL0.out]; unfold leakR; rw [if_neg (by dsimp only; omega), if_pos (.inl g3)])
                    go_wp2_with fail
                    go_ret2
                    exact rp_nil HV.out HB0.out
                  · by_cases g4 : chans.length < B.length
                    · have HV := hid (show vlinesR (⟨k, r, (n : Int), A, B, imp, pol, ln, co, er⟩ : Vd) levels chans = ([], 5) from by rw [HVL0.out]; unfold leakR; rw [if_neg (by dsimp only; omega), if_pos (.inr g4)])
                      go_wp2_with fail
                      go_ret2
                      exact rp_nil HV.out HB0.out
                    · have HL := hid (rleak_any k r n A B imp pol ln co er pA pB cA cB levels chans (.slice pl levels.length cl) (.slice pc chans.length cc) (fun i => i < w.heap.size) W0 (HVL.out.keep fun i hi => ⟨HR.out i hi, HB0.out.block i (HR.out i hi)⟩) (HVC.out.keep fun i hi => ⟨HR.out i hi, HB0.out.block i (HR.out i hi)⟩) (HNA.out.keep fun i hi => ⟨HR.out i hi, HB0.out.block i (HR.out i hi)⟩) (HNB.out.keep fun i hi => ⟨HR.out i hi, HB0.out.block i (HR.out i hi)⟩) (fun i hi => Nat.lt_of_lt_of_le hi HB0.out.size) HAn.out HBn.out HAl.out HBl.out HLS.out HCS.out hcl (by omega) (by omega) (by omega))
                      have HC0 := hid (show (leakR (⟨k, r, (n : Int), A, B, imp, pol, ln, co, er⟩ : Vd) levels chans).2 = 0 from by unfold leakR; rw [if_neg (by dsimp only; omega), if_neg (by dsimp only; omega)])
                      go_wp2_with (go_at_call 42; (with_reducible refine HL.out.mono ?_); rintro e w1 ⟨hb, p9, c9', rfl, hs⟩; have HB1 := hid (HB0.out.trans (hb.mono HB0.out.size)); have HS1 := hid hs; clear hb hs)
                      go_ret2
                      refine ⟨HB1.out, ?_⟩
                      rw [HVL0.out, HC0.out]
                      exact ⟨_, _, rfl, HS1.out⟩
            · have t_k1 : ((k : Int) == 1) = false := by rw [beq_eq_false_iff_ne]; omega
              by_cases hk3 : k = 3
              · have t_k3 : ((k : Int) == 3) = true := by rw [beq_iff_eq]; omega
                have HVR := hid (show vlinesR (⟨k, r, lv, A, B, imp, pol, ln, co, er⟩ : Vd) levels chans = rejectR (⟨k, r, lv, A, B, imp, pol, ln, co, er⟩ : Vd) from by unfold vlinesR; rw [if_neg h3, if_neg (by rw [HBR.out]; decide), if_neg hk1, if_pos hk3])
                have HK3 := hid hk3
                clear hk3
                by_cases g1 : er < 1
                · have HV := hid (show vlinesR (⟨k, r, lv, A, B, imp, pol, ln, co, er⟩ : Vd) levels chans = ([], 3) from by rw [HVR.out]; unfold rejectR; rw [if_pos (.inl g1)])
                  have a1 : decide (er < 1) = true := decide_eq_true g1
                  clear g1
                  go_wp2_with fail
                  go_ret2
                  exact rp_nil HV.out HB0.out
                · have a1 : decide (er < 1) = false := decide_eq_false g1
                  by_cases g2 : 10 < er
                  · have HV := hid (show vlinesR (⟨k, r, lv, A, B, imp, pol, ln, co, er⟩ : Vd) levels chans = ([], 3) from by rw [HVR.out]; unfold rejectR; rw [if_pos (.inr g2)])
                    have a2 : decide (10 < er) = true := decide_eq_true g2
                    clear g2
                    go_wp2_with fail
                    go_ret2
                    exact rp_nil HV.out HB0.out
                  · have a2 : decide (10 < er) = false := decide_eq_false g2
                    have HER := hid (show 1 ≤ er ∧ er ≤ 10 from by omega)
                    obtain ⟨FS, hFS⟩ : ∃ s, jnR [wReject, if pol then [112, 111, 108, 105, 99, 121] else [112, 114, 111, 103, 114, 97, 109], Lib.itoa ln, Lib.itoa co, wErr er.toNat] = s := ⟨_, rfl⟩
                    have HV := hid (show vlinesR (⟨k, r, lv, A, B, imp, pol, ln, co, er⟩ : Vd) levels chans = ([FS], 0) from by rw [HVR.out, ← hFS, rej_jnR]; unfold rejectR; rw [if_neg (by dsimp only; omega)])
                    have HJR := hid (show ∀ (W : World), Calls Tryd.prog 43 #[.slice (some ⟨W.heap.size, 0, none⟩) 5 5] (W.alloc (.cells ([wReject, if pol then [112, 111, 108, 105, 99, 121] else [112, 114, 111, 103, 114, 97, 109], Lib.itoa ln, Lib.itoa co, wErr er.toNat].map sV).toArray 9)) (fun e w' => e = .returned (.string ⟨FS.toArray⟩) ∧ Below (W.alloc (.cells ([wReject, if pol then [112, 111, 108, 105, 99, 121] else [112, 114, 111, 103, 114, 97, 109], Lib.itoa ln, Lib.itoa co, wErr er.toNat].map sV).toArray 9)).heap.size (W.alloc (.cells ([wReject, if pol then [112, 111, 108, 105, 99, 121] else [112, 114, 111, 103, 114, 97, 109], Lib.itoa ln, Lib.itoa co, wErr er.toNat].map sV).toArray 9)) w') from fun W => by
                      have h := rjoinR_any [wReject, if pol then [112, 111, 108, 105, 99, 121] else [112, 114, 111, 103, 114, 97, 109], Lib.itoa ln, Lib.itoa co, wErr er.toNat] (.slice (some ⟨W.heap.size, 0, none⟩) 5 5) (fun _ => True) (W.alloc (.cells ([wReject, if pol then [112, 111, 108, 105, 99, 121] else [112, 114, 111, 103, 114, 97, 109], Lib.itoa ln, Lib.itoa co, wErr er.toNat].map sV).toArray 9)) (strs_litN W _ (by simp) (by simp) trivial) (by simp) (fun s hs => by
                        simp only [List.mem_cons, List.not_mem_nil, or_false] at hs
                        rcases hs with rfl | rfl | rfl | rfl | rfl
                        · decide
                        · cases pol <;> decide
                        · exact itoa_le ln HLN.out
                        · exact itoa_le co HCO.out
                        · have := wErr_len er.toNat; omega)
                      rwa [hFS] at h)
                    have HSW := hid (show ∀ W, Below W0.heap.size W0 W → (fun W : World => W.cell? ⟨w.heap.size, 7, none⟩ = some (.int .i64 ln) ∧ W.cell? ⟨w.heap.size, 8, none⟩ = some (.int .i64 co) ∧ W.cell? ⟨w.heap.size, 9, none⟩ = some (.int .i64 er)) W from fun W hb => ⟨(hb.cell (p := ⟨_, _, none⟩) (cell_size c7)).trans c7, (hb.cell (p := ⟨_, _, none⟩) (cell_size c8)).trans c8, (hb.cell (p := ⟨_, _, none⟩) (cell_size c9)).trans c9⟩)
                    clear hFS g1 g2
                    cases pol
                    · have HJ5 := hid (show ∀ (W : World), Calls Tryd.prog 43 #[.slice (some ⟨W.heap.size, 0, none⟩) 5 5] (W.alloc (.cells #[.string ⟨#[82, 69, 74, 69, 67, 84]⟩, .string ⟨#[112, 114, 111, 103, 114, 97, 109]⟩, .string ⟨(Lib.itoa ln).toArray⟩, .string ⟨(Lib.itoa co).toArray⟩, .string ⟨(wErr er.toNat).toArray⟩] 9)) (fun e w' => e = .returned (.string ⟨FS.toArray⟩) ∧ Below (W.alloc (.cells #[.string ⟨#[82, 69, 74, 69, 67, 84]⟩, .string ⟨#[112, 114, 111, 103, 114, 97, 109]⟩, .string ⟨(Lib.itoa ln).toArray⟩, .string ⟨(Lib.itoa co).toArray⟩, .string ⟨(wErr er.toNat).toArray⟩] 9)).heap.size (W.alloc (.cells #[.string ⟨#[82, 69, 74, 69, 67, 84]⟩, .string ⟨#[112, 114, 111, 103, 114, 97, 109]⟩, .string ⟨(Lib.itoa ln).toArray⟩, .string ⟨(Lib.itoa co).toArray⟩, .string ⟨(wErr er.toNat).toArray⟩] 9)) w') from HJR.out)
                      clear HJR
                      go_upto_region 20 with fail
                      have HBd := hid (show Below W0.heap.size W0 W0.drew from ⟨rfl, rfl, rfl, Nat.le_refl _, fun _ _ => rfl⟩)
                      have hS : (fun W : World => W.cell? ⟨w.heap.size, 7, none⟩ = some (.int .i64 ln) ∧ W.cell? ⟨w.heap.size, 8, none⟩ = some (.int .i64 co) ∧ W.cell? ⟨w.heap.size, 9, none⟩ = some (.int .i64 er)) W0.drew := HSW.out _ HBd.out
                      have hFa := fT
                      refine rgN (fun W : World => W.cell? ⟨w.heap.size, 7, none⟩ = some (.int .i64 ln) ∧ W.cell? ⟨w.heap.size, 8, none⟩ = some (.int .i64 co) ∧ W.cell? ⟨w.heap.size, 9, none⟩ = some (.int .i64 er)) 17 (by kernel_rfl) ?_
                      simp only [List.size_toArray, List.length_cons, List.length_nil, Nat.reduceAdd]
                      iterate 4 (refine wpHJ_nx (v := ?_) 17 rfl rfl (by kernel_rfl) nE hS ?_ ?_; rotate_left; (focus refine Or.inl ⟨by rfl, ?_⟩; rintro w' ⟨s7, s8, s9⟩; (try go_simp); try rfl); simp only [Act.put, actP, actQ])
                      iterate 3 (refine wpHJ_nx (v := ?_) 18 rfl rfl (by kernel_rfl) nE hS ?_ ?_; rotate_left; (focus refine Or.inl ⟨by rfl, ?_⟩; rintro w' ⟨s7, s8, s9⟩; (try go_simp); try rfl); simp only [Act.put, actP, actQ])
                      iterate 2 (refine wpHJ_nx (v := ?_) 19 rfl rfl (by kernel_rfl) nE hS ?_ ?_; rotate_left; (focus refine Or.inl ⟨by rfl, ?_⟩; rintro w' ⟨s7, s8, s9⟩; (try go_simp); try rfl); simp only [Act.put, actP, actQ])
                      refine wpHJ_only 4 (by kernel_rfl) rfl (fun K hK => ?_)
                      go_simp
                      (with_reducible refine (callsIn_wide.2 (rsigned_any ln _ HLN.out)).mono ?_)
                      rintro e w1 ⟨rfl, hb⟩
                      have HB1 := hid (HBd.out.trans (hb.mono HBd.out.size))
                      clear hb
                      refine hK _ _ (.inr (.inr (HSW.out _ HB1.out))) ?_
                      clear hK K
                      refine wpHJ_only 8 (by kernel_rfl) rfl (fun K hK => ?_)
                      go_simp
                      (with_reducible refine (callsIn_wide.2 (rsigned_any co _ HCO.out)).mono ?_)
                      rintro e w2 ⟨rfl, hb⟩
                      have HB2 := hid (HB1.out.trans (hb.mono HB1.out.size))
                      clear hb
                      refine hK _ _ (.inr (.inr (HSW.out _ HB2.out))) ?_
                      clear hK K
                      refine wpHJ_only 11 (by kernel_rfl) rfl (fun K hK => ?_)
                      go_simp
                      (with_reducible refine (callsIn_wide.2 (rerror_any er _ HER.out)).mono ?_)
                      rintro e w3 ⟨rfl, hb⟩
                      have HB3 := hid (HB2.out.trans (hb.mono HB2.out.size))
                      clear hb
                      refine hK _ _ (.inr (.inr (HSW.out _ HB3.out))) ?_
                      clear hK K
                      refine wpHJ_only 12 (by kernel_rfl) rfl (fun K hK => ?_)
                      go_simp
                      refine hK _ _ (.inr (.inr (HSW.out _ (HB3.out.alloc HB3.out.size _)))) ?_
                      clear hK K
                      refine wpHJ_only 13 (by kernel_rfl) rfl (fun K hK => ?_)
                      go_simp
                      (with_reducible refine (callsIn_wide.2 (HJ5.out w3)).mono ?_)
                      rintro e w5 ⟨rfl, hb⟩
                      have HB5 := hid ((HB3.out.alloc HB3.out.size (.cells #[.string ⟨#[82, 69, 74, 69, 67, 84]⟩, .string ⟨#[112, 114, 111, 103, 114, 97, 109]⟩, .string ⟨(Lib.itoa ln).toArray⟩, .string ⟨(Lib.itoa co).toArray⟩, .string ⟨(wErr er.toNat).toArray⟩] 9)).trans (hb.mono (HB3.out.alloc HB3.out.size (.cells #[.string ⟨#[82, 69, 74, 69, 67, 84]⟩, .string ⟨#[112, 114, 111, 103, 114, 97, 109]⟩, .string ⟨(Lib.itoa ln).toArray⟩, .string ⟨(Lib.itoa co).toArray⟩, .string ⟨(wErr er.toNat).toArray⟩] 9)).size))
                      clear hb
                      refine hK _ _ (.inr (.inr (HSW.out _ HB5.out))) ?_
                      clear hK K
                      refine wpHJ_only 14 (by kernel_rfl) rfl (fun K hK => ?_)
                      go_simp
                      refine hK _ _ (.inr (.inr (HSW.out _ (HB5.out.alloc HB5.out.size _)))) ?_
                      clear hK K
                      iterate 2 (refine wpHJ_nx (v := ?_) 17 rfl rfl (by kernel_rfl) nE (HSW.out _ (HB5.out.alloc HB5.out.size _)) ?_ ?_; rotate_left; (focus refine Or.inl ⟨by rfl, ?_⟩; rintro w' ⟨s7, s8, s9⟩; (try go_simp); try rfl); simp only [Act.put, actP, actQ])
                      refine wpHJ_done (by kernel_rfl) ?_ _
                      simp only [onlyN, Exit.then]
                      clear hFa
                      go_wp2_with fail
                      go_ret2
                      have h5 : Below w.heap.size w (w5.alloc (.cells #[.string ⟨FS.toArray⟩] 9)) := (HB0.out.trans (HB5.out.mono HB0.out.size)).alloc (Nat.le_trans HB0.out.size HB5.out.size) _
                      refine ⟨h5, ?_⟩
                      rw [HV.out]
                      exact ⟨_, 1, rfl, strs_lit w5 FS (by rw [World.size_alloc]; omega)⟩
                    · have HJ5 := hid (show ∀ (W : World), Calls Tryd.prog 43 #[.slice (some ⟨W.heap.size, 0, none⟩) 5 5] (W.alloc (.cells #[.string ⟨#[82, 69, 74, 69, 67, 84]⟩, .string ⟨#[112, 111, 108, 105, 99, 121]⟩, .string ⟨(Lib.itoa ln).toArray⟩, .string ⟨(Lib.itoa co).toArray⟩, .string ⟨(wErr er.toNat).toArray⟩] 9)) (fun e w' => e = .returned (.string ⟨FS.toArray⟩) ∧ Below (W.alloc (.cells #[.string ⟨#[82, 69, 74, 69, 67, 84]⟩, .string ⟨#[112, 111, 108, 105, 99, 121]⟩, .string ⟨(Lib.itoa ln).toArray⟩, .string ⟨(Lib.itoa co).toArray⟩, .string ⟨(wErr er.toNat).toArray⟩] 9)).heap.size (W.alloc (.cells #[.string ⟨#[82, 69, 74, 69, 67, 84]⟩, .string ⟨#[112, 111, 108, 105, 99, 121]⟩, .string ⟨(Lib.itoa ln).toArray⟩, .string ⟨(Lib.itoa co).toArray⟩, .string ⟨(wErr er.toNat).toArray⟩] 9)) w') from HJR.out)
                      clear HJR
                      go_upto_region 20 with fail
                      have HBd := hid (show Below W0.heap.size W0 W0.drew from ⟨rfl, rfl, rfl, Nat.le_refl _, fun _ _ => rfl⟩)
                      have hS : (fun W : World => W.cell? ⟨w.heap.size, 7, none⟩ = some (.int .i64 ln) ∧ W.cell? ⟨w.heap.size, 8, none⟩ = some (.int .i64 co) ∧ W.cell? ⟨w.heap.size, 9, none⟩ = some (.int .i64 er)) W0.drew := HSW.out _ HBd.out
                      have hFa := fT
                      refine rgN (fun W : World => W.cell? ⟨w.heap.size, 7, none⟩ = some (.int .i64 ln) ∧ W.cell? ⟨w.heap.size, 8, none⟩ = some (.int .i64 co) ∧ W.cell? ⟨w.heap.size, 9, none⟩ = some (.int .i64 er)) 17 (by kernel_rfl) ?_
                      simp only [List.size_toArray, List.length_cons, List.length_nil, Nat.reduceAdd]
                      iterate 4 (refine wpHJ_nx (v := ?_) 17 rfl rfl (by kernel_rfl) nE hS ?_ ?_; rotate_left; (focus refine Or.inl ⟨by rfl, ?_⟩; rintro w' ⟨s7, s8, s9⟩; (try go_simp); try rfl); simp only [Act.put, actP, actQ])
                      iterate 3 (refine wpHJ_nx (v := ?_) 18 rfl rfl (by kernel_rfl) nE hS ?_ ?_; rotate_left; (focus refine Or.inl ⟨by rfl, ?_⟩; rintro w' ⟨s7, s8, s9⟩; (try go_simp); try rfl); simp only [Act.put, actP, actQ])
                      iterate 2 (refine wpHJ_nx (v := ?_) 19 rfl rfl (by kernel_rfl) nE hS ?_ ?_; rotate_left; (focus refine Or.inl ⟨by rfl, ?_⟩; rintro w' ⟨s7, s8, s9⟩; (try go_simp); try rfl); simp only [Act.put, actP, actQ])
                      refine wpHJ_only 4 (by kernel_rfl) rfl (fun K hK => ?_)
                      go_simp
                      (with_reducible refine (callsIn_wide.2 (rsigned_any ln _ HLN.out)).mono ?_)
                      rintro e w1 ⟨rfl, hb⟩
                      have HB1 := hid (HBd.out.trans (hb.mono HBd.out.size))
                      clear hb
                      refine hK _ _ (.inr (.inr (HSW.out _ HB1.out))) ?_
                      clear hK K
                      refine wpHJ_only 8 (by kernel_rfl) rfl (fun K hK => ?_)
                      go_simp
                      (with_reducible refine (callsIn_wide.2 (rsigned_any co _ HCO.out)).mono ?_)
                      rintro e w2 ⟨rfl, hb⟩
                      have HB2 := hid (HB1.out.trans (hb.mono HB1.out.size))
                      clear hb
                      refine hK _ _ (.inr (.inr (HSW.out _ HB2.out))) ?_
                      clear hK K
                      refine wpHJ_only 11 (by kernel_rfl) rfl (fun K hK => ?_)
                      go_simp
                      (with_reducible refine (callsIn_wide.2 (rerror_any er _ HER.out)).mono ?_)
                      rintro e w3 ⟨rfl, hb⟩
                      have HB3 := hid (HB2.out.trans (hb.mono HB2.out.size))
                      clear hb
                      refine hK _ _ (.inr (.inr (HSW.out _ HB3.out))) ?_
                      clear hK K
                      refine wpHJ_only 12 (by kernel_rfl) rfl (fun K hK => ?_)
                      go_simp
                      refine hK _ _ (.inr (.inr (HSW.out _ (HB3.out.alloc HB3.out.size _)))) ?_
                      clear hK K
                      refine wpHJ_only 13 (by kernel_rfl) rfl (fun K hK => ?_)
                      go_simp
                      (with_reducible refine (callsIn_wide.2 (HJ5.out w3)).mono ?_)
                      rintro e w5 ⟨rfl, hb⟩
                      have HB5 := hid ((HB3.out.alloc HB3.out.size (.cells #[.string ⟨#[82, 69, 74, 69, 67, 84]⟩, .string ⟨#[112, 111, 108, 105, 99, 121]⟩, .string ⟨(Lib.itoa ln).toArray⟩, .string ⟨(Lib.itoa co).toArray⟩, .string ⟨(wErr er.toNat).toArray⟩] 9)).trans (hb.mono (HB3.out.alloc HB3.out.size (.cells #[.string ⟨#[82, 69, 74, 69, 67, 84]⟩, .string ⟨#[112, 111, 108, 105, 99, 121]⟩, .string ⟨(Lib.itoa ln).toArray⟩, .string ⟨(Lib.itoa co).toArray⟩, .string ⟨(wErr er.toNat).toArray⟩] 9)).size))
                      clear hb
                      refine hK _ _ (.inr (.inr (HSW.out _ HB5.out))) ?_
                      clear hK K
                      refine wpHJ_only 14 (by kernel_rfl) rfl (fun K hK => ?_)
                      go_simp
                      refine hK _ _ (.inr (.inr (HSW.out _ (HB5.out.alloc HB5.out.size _)))) ?_
                      clear hK K
                      iterate 2 (refine wpHJ_nx (v := ?_) 17 rfl rfl (by kernel_rfl) nE (HSW.out _ (HB5.out.alloc HB5.out.size _)) ?_ ?_; rotate_left; (focus refine Or.inl ⟨by rfl, ?_⟩; rintro w' ⟨s7, s8, s9⟩; (try go_simp); try rfl); simp only [Act.put, actP, actQ])
                      refine wpHJ_done (by kernel_rfl) ?_ _
                      simp only [onlyN, Exit.then]
                      clear hFa
                      go_wp2_with fail
                      go_ret2
                      have h5 : Below w.heap.size w (w5.alloc (.cells #[.string ⟨FS.toArray⟩] 9)) := (HB0.out.trans (HB5.out.mono HB0.out.size)).alloc (Nat.le_trans HB0.out.size HB5.out.size) _
                      refine ⟨h5, ?_⟩
                      rw [HV.out]
                      exact ⟨_, 1, rfl, strs_lit w5 FS (by rw [World.size_alloc]; omega)⟩
              · have t_k3 : ((k : Int) == 3) = false := by rw [beq_eq_false_iff_ne]; omega
                have HVP := hid (show vlinesR (⟨k, r, lv, A, B, imp, pol, ln, co, er⟩ : Vd) levels chans = plainR (⟨k, r, lv, A, B, imp, pol, ln, co, er⟩ : Vd) from by unfold vlinesR; rw [if_neg h3, if_neg (by rw [HBR.out]; decide), if_neg hk1, if_neg hk3])
                have HWD := hid (fun W => rword_any k r W hk hr)
                unfold WordPost at HWD
                obtain ⟨⟨wd, wc⟩, hwd⟩ : ∃ x, wordR k r = x := ⟨_, rfl⟩
                rw [hwd] at HWD
                by_cases h0 : wc = 0
                · subst h0
                  have HV := hid (show vlinesR (⟨k, r, lv, A, B, imp, pol, ln, co, er⟩ : Vd) levels chans = ([wd], 0) from by rw [HVP.out]; unfold plainR; dsimp only; rw [hwd, if_pos rfl])
                  clear hwd
                  go_wp2_with (go_at_call 10; (with_reducible refine (HWD.out _).mono ?_); rintro e w1 ⟨rfl, hb⟩; have HB1 := hid (HB0.out.trans (hb.mono HB0.out.size)); clear hb)
                  go_ret2
                  have h5 : Below w.heap.size w (w1.alloc (.cells #[.string ⟨wd.toArray⟩] 9)) := HB1.out.alloc HB1.out.size _
                  refine ⟨h5, ?_⟩
                  rw [HV.out]
                  exact ⟨_, 1, rfl, strs_lit w1 wd (by rw [World.size_alloc]; omega)⟩
                · have HV := hid (show vlinesR (⟨k, r, lv, A, B, imp, pol, ln, co, er⟩ : Vd) levels chans = ([], wc) from by rw [HVP.out]; unfold plainR; dsimp only; rw [hwd, if_neg h0])
                  have t0 : (wc != 0) = true := by rw [bne_iff_ne]; exact h0
                  clear hwd h0
                  go_wp2_with (go_at_call 10; (with_reducible refine (HWD.out _).mono ?_); rintro e w1 ⟨rfl, hb⟩; have HB1 := hid (HB0.out.trans (hb.mono HB0.out.size)); clear hb)
                  go_ret2
                  exact rp_nil HV.out HB1.out
          · have HV := hid (show vlinesR (⟨k, r, lv, A, B, imp, pol, ln, co, er⟩ : Vd) levels chans = ([], 2) from by unfold vlinesR; rw [if_neg h3, if_pos (by rw [bare_fb, HWB.out, HRB.out, HFB.out]; rfl)])
            go_wp2_with fail
            go_ret2
            exact rp_nil HV.out HB0.out

end Go.Proofs.YtehjfmbnebeioaaDoor
