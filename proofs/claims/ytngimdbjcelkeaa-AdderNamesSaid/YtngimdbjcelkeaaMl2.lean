/-
  The law side of muldiv: cut, shows, awake.
  The law side of muldiv: the walks of shows and awake.
-/
import Derived.Test.YtngimdbjcelkeaaMd8
namespace Go.Proofs.Ytngimdbjcelkeaa
set_option linter.unusedSimpArgs false
set_option linter.unusedVariables false
open Go.RowKit Go.Shelf

set_option maxHeartbeats 400000 in
theorem cut_any (z : Int) (pv px py : Option Addr) (nv cv nx cx ny cy : Nat) (w : World) (hz : -9223372036854775808 ≤ z ∧ z ≤ 9223372036854775807) :
    Calls Try.prog 62 #[.agg #[.int .i64 z, .slice pv nv cv, .slice px nx cx, .slice py ny cy]] w fun e w' => e = .returned (.agg #[.int .i64 (z % 18), .slice pv nv cv, .slice px nx cx, .slice py ny cy]) ∧ Below w.heap.size w w' := by
  have HM := hid (fun w0 => mod_any z 18 w0 hz (by omega))
  go_enter Try.func62, Try.ntmps62
  go_wp2_with (go_at_call 65; refine (HM.out _).mono ?_; rintro e w1 ⟨rfl, rfl⟩)
  refine bodyPost_ret (v := .agg #[.int .i64 (z % 18), .slice pv nv cv, .slice px nx cx, .slice py ny cy]) (by simp [results, Try.results62, go_sem]) rfl ⟨rfl, ?_⟩
  exact ((Below.refl _ _).alloc (Nat.le_refl _) _).alloc (by simp) _

/-- A block of numbers is laid. -/
theorem Bas.lay {w0 w : World} {bb n V K : Nat} {vin vval : Value} {σ : Nat → Bool} {F : Form} (h : Bas w0 bb n vin vval V K w σ F) (zs : List Int) (m : Nat) (hm : zs.length = m) (hl : m ≤ 1024) (W' : World) (hW : w.alloc (.cells (zs.map (Value.int .i64)).toArray 3) = W') :
    Bas w0 bb n vin vval V K W' σ F ∧ Below w.heap.size w W' ∧ FrB bb w W' ∧ Ints (Away bb W') W' (.slice (some ⟨w.heap.size, 0, none⟩) m m) zs ∧ W'.heap.size = w.heap.size + 1 := by
  subst hW
  have hb : Below w.heap.size w (w.alloc (.cells (zs.map (Value.int .i64)).toArray 3)) := (Below.refl _ _).alloc (Nat.le_refl _) _
  exact ⟨h.fr hb, hb, FrB.of_below h.st.c.b hb, Ints.whole hm.symm (by rw [heap_al, if_pos rfl]) (h.st.c.b.away_new hb (Nat.le_refl _) (by simp)) (by omega), by simp only [World.size_alloc]⟩

/-- The bits of two words of three inputs. -/
theorem small_bits : ∀ x y : Fin 8, valB ([2, 3, 4].map (litT (sigB (smallV (x.val : Int) (y.val : Int))))) = x.val ∧ valB ([5, 6, 7].map (litT (sigB (smallV (x.val : Int) (y.val : Int))))) = y.val := by decide

/-- Shows, of a word that is there. -/
theorem Kit.shows {w0 w w1 : World} {bb n V K : Nat} {vin vval : Value} {σ : Nat → Bool} {F : Form} {ws : List (Value × List Int × List Bool)} {ls : List (Int × Bool)} (hK : Kit bb w σ F ws ls) (h : Bas w0 bb n vin vval V K w σ F) {v : Value} {zs : List Int} {bs : List Bool} (hm : (v, zs, bs) ∈ ws) (h64 : bs.length ≤ 64) {want : Nat} (hw : valB bs = want) (hb : Below w.heap.size w w1) :
    Calls Try.prog 41 #[.agg #[.pointer (some ⟨bb, 0, none⟩), vin, vval], .int .u64 (want : Nat), .int .i64 0, v] w1 fun e w' => e = .returned (.bool true) ∧ Below w.heap.size w w' := by
  obtain ⟨h1, h2⟩ := hK.w _ hm
  have hf := FrB.of_below h.st.c.b hb
  have hc := shows_any bb n σ F vin vval v zs want 0 (Away bb w1) w1 (h.st.c.below hb) (h1.fr hf) h2.1 (fun k hk => hk.size) (Nat.le_trans (Nat.le_of_eq h2.len) h64)
  have e2 : zs.map (litT σ) = bs := h2.2
  rw [e2, hw] at hc
  simp only [decide_true, Bool.and_self] at hc
  exact hc.mono fun e w' ⟨he, hb'⟩ => ⟨he, below_tr' hb hb' (Nat.le_refl _)⟩

end Go.Proofs.Ytngimdbjcelkeaa

namespace Go.Proofs.Ytngimdbjcelkeaa
set_option linter.unusedSimpArgs false
set_option linter.unusedVariables false
open Go.RowKit Go.Shelf

set_option maxRecDepth 100000 in
set_option maxHeartbeats 3200000 in
theorem shows17_c (x y p q r : Nat) (hx : x < 8) (hy : y < 8) (hp : p = x * y % 8) (hq : q = divQ 3 x y) (hr : r = x % y) (w : World) :
    Calls Try.prog 58 #[.int .u64 (x : Int), .int .u64 (y : Int), .int .u64 (p : Int), .int .u64 (q : Int), .int .u64 (r : Int)] w fun e w' => e = .returned (.bool true) ∧ Below w.heap.size w w' := by
  have HSM := hid (small_any (x : Int) (y : Int) w)
  obtain ⟨bx, by_⟩ := small_bits ⟨x, hx⟩ ⟨y, hy⟩
  simp only at bx by_
  generalize sigB (smallV (x : Int) (y : Int)) = σ0 at *
  have HX := hid bx; have HY := hid by_; have HP := hid hp; have HQ := hid hq; have HR := hid hr
  clear bx by_ hp hq hr
  go_enter Try.func58, Try.ntmps58
  go_wp2_with fail
  (with_reducible refine HSM.out.mono ?_)
  rintro e w3 ⟨bb, vin, vval, rfl, hC, hb, hbb, hlo⟩
  obtain ⟨pi, ci, rfl, _, _, _⟩ := hC.inp.opn (insM_len _)
  obtain ⟨pv, cv, rfl, _, _, _⟩ := hC.val.opn (valsM_len _ _)
  have hB0 : Bas w bb 6 _ _ 7 1 w3 σ0 ⟨7, [[1]]⟩ := ⟨St.mk hC hb hlo, Nat.le_refl _, Nat.le_refl _⟩
  obtain ⟨hB1, hT1, hs1, hf1⟩ := hB0.box _ rfl
  obtain ⟨w4, hw4⟩ : ∃ w4, w3.alloc (.cells #[.pointer (some ⟨bb, 0, none⟩), .slice pi 6 ci, .slice pv 6 cv] 28) = w4 := ⟨_, rfl⟩
  rw [hw4] at hB1 hT1 hs1 hf1
  obtain ⟨w5, hw5⟩ : ∃ w5, w4.alloc (.cells #[.int .i64 2, .int .i64 3, .int .i64 4] 3) = w5 := ⟨_, rfl⟩
  obtain ⟨hB2, hb2, hf2, hi2, hs2⟩ := hB1.lay [2, 3, 4] 3 rfl (by omega) w5 hw5
  obtain ⟨w6, hw6⟩ : ∃ w6, w5.alloc (.cells #[.int .i64 5, .int .i64 6, .int .i64 7] 3) = w6 := ⟨_, rfl⟩
  obtain ⟨hB3, hb3, hf3, hi3, hs3⟩ := hB2.lay [5, 6, 7] 3 rfl (by omega) w6 hw6
  have lx : LitsAre σ0 ⟨7, [[1]]⟩ [2, 3, 4] ([2, 3, 4].map (litT σ0)) := ⟨(by decide : ∀ x ∈ ([2, 3, 4] : List Int), okLit (7 : Nat) x = true), rfl⟩
  have ly : LitsAre σ0 ⟨7, [[1]]⟩ [5, 6, 7] ([5, 6, 7].map (litT σ0)) := ⟨(by decide : ∀ x ∈ ([5, 6, 7] : List Int), okLit (7 : Nat) x = true), rfl⟩
  have HC := hid (mul_c hB3 (m := 3) (by omega) (by omega) (hi2.fr hf3) hi3 lx ly rfl rfl (by omega) (by omega))
  have HT := hid ((hT1.fr hf2).fr hf3)
  have HLX := hid lx; have HLY := hid ly
  have e3 : w3.heap.size + 1 = w4.heap.size := by omega
  have e4 : w4.heap.size + 1 = w5.heap.size := by omega
  have HW4 := hid hw4; have HW5 := hid hw5; have HW6 := hid hw6; have HE3 := hid e3; have HE4 := hid e4
  have HBW := hid hb
  clear hC hb hbb hlo hB0 hB1 hT1 hs1 hf1 hB2 hb2 hf2 hi2 hs2 hB3 hb3 hf3 hi3 hs3 lx ly hw4 hw5 hw6 e3 e4 HSM
  go_wp2_with fail
  rw [HW4.out, HW5.out, HW6.out, HE3.out, HE4.out]
  (with_reducible refine HC.out.mono ?_)
  rintro e w7 ⟨v7, zs7, σ7, F7, rfl, hB7, hi7, hl7, hf7, hx7⟩
  have hz7 : zs7.length = 3 := by rw [hl7.len, ofB_len]
  obtain ⟨p7, c7, rfl, _, _, _⟩ := hi7.opn hz7
  have hT7 := HT.out.fr hf7
  have hS7 := hT7.boxS
  obtain ⟨w8, hw8⟩ : ∃ w8, w7.alloc (.cells #[.int .i64 2, .int .i64 3, .int .i64 4] 3) = w8 := ⟨_, rfl⟩
  obtain ⟨hB8, hb8, hf8, hi8, hs8⟩ := hB7.lay [2, 3, 4] 3 rfl (by omega) w8 hw8
  obtain ⟨w9, hw9⟩ : ∃ w9, w8.alloc (.cells #[.int .i64 5, .int .i64 6, .int .i64 7] 3) = w9 := ⟨_, rfl⟩
  obtain ⟨hB9, hb9, hf9, hi9, hs9⟩ := hB8.lay [5, 6, 7] 3 rfl (by omega) w9 hw9
  have HC2 := hid (div_c hB9 (m := 3) (by omega) (by omega) (hi8.fr hf9) hi9 (HLX.out.ext hx7) (HLY.out.ext hx7) rfl rfl (by omega) (by omega))
  have HT9 := hid ((hT7.fr hf8).fr hf9)
  have hK9 := (((Kit.nil (bb := bb)).word hi7 hl7).fr hf8).fr hf9
  have HK9 := hid hK9; have HW8 := hid hw8; have HW9 := hid hw9; have HS8 := hid hs8.symm; have HE7 := hid (HE3.out)
  obtain ⟨b0, b1, b2⟩ := hS7
  clear hB7 hi7 hl7 hf7 hx7 hz7 hT7 hB8 hb8 hf8 hi8 hs8 hB9 hb9 hf9 hi9 hs9 hK9 hw8 hw9 HC HT HW4 HW5 HW6
  go_wp2_with fail
  rw [HW8.out, HW9.out, HS8.out]
  (with_reducible refine HC2.out.mono ?_)
  rintro e wd ⟨vq, zq, vr, zr, σd, Fd, rfl, hBd, hiq, hlq, hir, hlr, hfd, hxd⟩
  have hzq : zq.length = 3 := by rw [hlq.len, ofB_len]
  have hzr : zr.length = 3 := by rw [hlr.len, ofB_len]
  obtain ⟨pq, cq, rfl, _, _, _⟩ := hiq.opn hzq
  obtain ⟨pr, cr, rfl, _, _, _⟩ := hir.opn hzr
  have hTd := HT9.out.fr hfd
  have hK := ((HK9.out.step hfd hxd).word hiq hlq).word hir hlr
  have hS := hTd.boxS
  obtain ⟨d0, d1, d2⟩ := hS
  have e7 : valB (ofB 3 (valB ([2, 3, 4].map (litT σ0)) * valB ([5, 6, 7].map (litT σ0)))) = p := by rw [HX.out, HY.out, valB_ofB, HP.out]
  have eq' : valB (ofB 3 (divQ 3 (valB ([2, 3, 4].map (litT σ0))) (valB ([5, 6, 7].map (litT σ0))))) = q := by
    rw [HX.out, HY.out, valB_ofB, ← HQ.out]
    refine Nat.mod_eq_of_lt ?_
    rw [HQ.out]
    unfold divQ
    split
    · decide
    · exact Nat.lt_of_le_of_lt (Nat.div_le_self _ _) hx
  have er : valB (ofB 3 (valB ([2, 3, 4].map (litT σ0)) % valB ([5, 6, 7].map (litT σ0)))) = r := by
    rw [HX.out, HY.out, valB_ofB, ← HR.out]
    exact Nat.mod_eq_of_lt (by rw [HR.out]; exact Nat.lt_of_le_of_lt (Nat.mod_le _ _) hx)
  have HC3 := hid (hK.shows hBd (v := .slice p7 3 c7) (zs := zs7) (by simp) (by rw [ofB_len]; omega) e7 (Below.refl _ _))
  have HC4 := hid (fun w' hb => hK.shows hBd (w1 := w') (v := .slice pq 3 cq) (zs := zq) (by simp) (by rw [ofB_len]; omega) eq' hb)
  have HC5 := hid (fun w' hb => hK.shows hBd (w1 := w') (v := .slice pr 3 cr) (zs := zr) (by simp) (by rw [ofB_len]; omega) er hb)
  have HFR := hid hBd.st.fr
  have HTD := hid hTd
  have hltd := hTd.lt
  clear e7 eq' er hK hTd hlr hir hlq hiq hBd hfd hxd hzq hzr HK9 HT9 HC2 b0 b1 b2
  go_wp2_with fail
  (with_reducible refine HC3.out.mono ?_)
  rintro e we ⟨rfl, hbe⟩
  obtain ⟨f0, f1, f2⟩ := (HTD.out.boxS).below hbe hltd
  have HBE := hid hbe
  clear hbe HC3
  go_wp2_with fail
  (with_reducible refine (HC4.out _ HBE.out).mono ?_)
  rintro e wf ⟨rfl, hbf⟩
  obtain ⟨g0, g1, g2⟩ := (HTD.out.boxS).below hbf hltd
  have HBF := hid hbf
  clear hbf HC4
  go_wp2_with fail
  (with_reducible refine (HC5.out _ HBF.out).mono ?_)
  rintro e wg ⟨rfl, hbg⟩
  have HBG := hid (below_tr' HFR.out hbg (Nat.le_refl _))
  clear hbg HC5
  go_wp2
  go_ret
  exact ⟨rfl, HBG.out⟩

set_option maxHeartbeats 400000 in
theorem awake17_any (w : World) : Calls Try.prog 61 #[] w fun e w' => e = .returned (.bool true) ∧ Below w.heap.size w w' := by
  have h1 := fun w => shows17_c 5 3 7 1 2 (by omega) (by omega) rfl rfl rfl w
  have h2 := fun w => shows17_c 6 0 0 7 6 (by omega) (by omega) rfl rfl rfl w
  have H1 : Hid (∀ w, Calls Try.prog 58 #[.int .u64 5, .int .u64 3, .int .u64 7, .int .u64 1, .int .u64 2] w fun e w' => e = .returned (.bool true) ∧ Below w.heap.size w w') := hid h1
  have H2 : Hid (∀ w, Calls Try.prog 58 #[.int .u64 6, .int .u64 0, .int .u64 0, .int .u64 7, .int .u64 6] w fun e w' => e = .returned (.bool true) ∧ Below w.heap.size w w') := hid h2
  clear h1 h2
  go_enter Try.func61, Try.ntmps61
  go_wp2_with fail
  (with_reducible refine (H1.out _).mono ?_)
  rintro e w1 ⟨rfl, hb1⟩
  have HB1 := hid hb1; clear hb1
  go_wp2_with fail
  (with_reducible refine (H2.out _).mono ?_)
  rintro e w2 ⟨rfl, hb2⟩
  have HB2 := hid (below_tr HB1.out hb2)
  clear hb2
  go_wp2
  go_ret
  exact ⟨rfl, HB2.out⟩

end Go.Proofs.Ytngimdbjcelkeaa
