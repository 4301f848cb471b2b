/-
  DimacsValid: the walk.
-/
import Derived.Test.YtfllhhgnflpagaaDoorDmVl
namespace Go.Proofs.YtfllhhgnflpagaaDoor
set_option linter.unusedSimpArgs false
set_option linter.unusedVariables false
open Go.RowKit Go.Shelf
attribute [local go_sem] Oper.semAt_some
theorem prs_sb {s : Bs} {sb : ByteArray} (hsb : (⟨s.toArray⟩ : ByteArray) = sb) {n : Int} {cls : List (List Int)} {a b : Int} (h : parseM s = ((n, cls), a, b)) (w : World) (hE : Env w) :
    Calls Tryd.prog 15 #[.string sb] w fun e w' => ∃ cv, e = .returned (.tuple #[.agg #[.int .i64 n, cv], .int .i64 a, .int .i64 b]) ∧ LL (fun k => w.heap.size ≤ k ∧ k < w'.heap.size) w' cv cls ∧ Below w.heap.size w w' := by
  rw [← hsb]; exact prs_is h w hE
theorem chk_is {n : Int} {cls : List (List Int)} {v : Value} (w : World) (h : FitF n cls (textM n cls)) (hv : LL (· < w.heap.size) w v cls) : Calls Tryd.prog 19 #[.agg #[.int .i64 n, v]] w fun e w' => e = .returned (.int .i64 0) ∧ Below w.heap.size w w' := by
  have := ccheck_any n cls v w hv h.bnd h.n0.1 h.n0.2
  rw [h.fok.check] at this
  exact this
theorem cnt_take (sb : ByteArray) (i : Nat) (h : i < sb.size) : cntNL (sb.data.toList.take (i + 1)) = cntNL (sb.data.toList.take i) + (if sb[i] = 10 then 1 else 0) := by
  rw [take_byte sb i h]
  unfold cntNL
  rw [List.countP_append, List.countP_singleton]
  simp
theorem cnt_le (s : Bs) : cntNL s ≤ s.length := List.countP_le_length
set_option maxRecDepth 100000 in
set_option maxHeartbeats 4000000 in
theorem valid_walk (s : Bs) (w : World) (hE : Env w) : Calls Tryd.prog 7 #[.string ⟨s.toArray⟩] w fun e w' => e = .returned (.bool true) ∧ Below w.heap.size w w' := by
  have HE := hid hE
  clear hE
  by_cases hl : 2000 < s.length
  · have hd : decide (2000 < (s.length : Int)) = true := by simp; omega
    go_enter Tryd.func7, Tryd.ntmps7
    go_wp2_with (first
      | (go_at_call 12; with_reducible refine (known_any w HE.out).mono ?_; rintro e w1_ ⟨rfl, hb1⟩; have HBel1 := hid (show Below w.heap.size w w1_ from hb1); clear hb1))
    go_ret
    exact ⟨rfl, HBel1.out⟩
  · obtain ⟨⟨⟨n, cls⟩, ln, er⟩, hpm⟩ : ∃ x, parseM s = x := ⟨_, rfl⟩
    obtain ⟨sb, hsb⟩ : ∃ sb : ByteArray, (⟨s.toArray⟩ : ByteArray) = sb := ⟨_, rfl⟩
    have hsz : sb.size ≤ 2000 := by rw [← hsb]; simp [ByteArray.size]; omega
    have hd : decide (2000 < (sb.size : Int)) = false := by simp; omega
    have HLL := hid (show s = sb.data.toList from by rw [← hsb])
    have HSB := hid hsb
    rw [hsb]
    by_cases he : er = 0
    · obtain ⟨hln, hgood⟩ := parse_good (by omega) hpm he
      subst he hln
      have HF := hid hgood; have HPM := hid hpm
      have hf2 := hgood.prs
      obtain ⟨txt, htx⟩ : ∃ x, textM n cls = x := ⟨_, rfl⟩
      have hfm := hgood.fmt
      rw [htx] at hf2 hfm
      have HF2 := hid hf2; have HFM := hid hfm
      clear hgood hpm hf2 hfm htx hsb hl
      go_enter Tryd.func7, Tryd.ntmps7
      go_wp2_with (first
        | (go_at_call 15; with_reducible refine (prs_sb HSB.out HPM.out w HE.out).mono ?_; rintro e w1_ ⟨vP, rfl, hlP, hb1⟩; obtain ⟨pP, nP, kP, rfl⟩ := hlP.slc; have HBel1 := hid (show Below w.heap.size w w1_ from hb1); (obtain ⟨w1b_, hwP⟩ : ∃ x, w1_.alloc (.cells #[.int .i64 (n), .slice pP nP kP] 24) = x := ⟨_, rfl⟩); have hbxP : Below w1_.heap.size w1_ w1b_ := (by rw [← hwP]; exact (Below.refl _ _).alloc (Nat.le_refl _) _); have HBel2 := hid (show Below w.heap.size w w1b_ from HBel1.out.trans (hbxP.mono HBel1.out.size)); have P_2 := hid (show Bx w1_.heap.size (n) (.slice pP nP kP) w1b_ from (by rw [← hwP]; exact Bx.new _ _ _)); have Pc0_2 := P_2.out.c0; have Pc1_2 := P_2.out.c1; have LP_2 := hid (show LL (· < w1b_.heap.size) w1b_ (.slice pP nP kP) (cls) from hlP.up hbxP); have HWP := hid hwP; clear hwP hlP hbxP; clear hb1)
        | (rw [HWP.out])
        | (go_at_call 13; with_reducible refine (fmt_is HFM.out w1b_ LP_2.out HF.out.bnd HF.out.n0 (HE.out.below HBel2.out)).mono ?_; rintro e w3_ ⟨rfl, hb3⟩; have HBel3 := hid (show Below w.heap.size w w3_ from HBel2.out.trans (hb3.mono HBel2.out.size)); have P_3 := hid (P_2.out.bel hb3); have Pc0_3 := P_3.out.c0; have Pc1_3 := P_3.out.c1; clear Pc0_2 Pc1_2; have LP_3 := hid (LP_2.out.bel hb3); clear hb3)
        | (go_at_call 15; with_reducible refine (prs_is HF2.out w3_ (HE.out.below HBel3.out)).mono ?_; rintro e w4_ ⟨vQ, rfl, hlQ, hb4⟩; obtain ⟨pQ, nQ, kQ, rfl⟩ := hlQ.slc; have HBel4 := hid (show Below w.heap.size w w4_ from HBel3.out.trans (hb4.mono HBel3.out.size)); have P_4 := hid (P_3.out.bel hb4); have Pc0_4 := P_4.out.c0; have Pc1_4 := P_4.out.c1; clear Pc0_3 Pc1_3; have LP_4 := hid (LP_3.out.bel hb4); (obtain ⟨w4b_, hwQ⟩ : ∃ x, w4_.alloc (.cells #[.int .i64 (n), .slice pQ nQ kQ] 24) = x := ⟨_, rfl⟩); have hbxQ : Below w4_.heap.size w4_ w4b_ := (by rw [← hwQ]; exact (Below.refl _ _).alloc (Nat.le_refl _) _); have HBel5 := hid (show Below w.heap.size w w4b_ from HBel4.out.trans (hbxQ.mono HBel4.out.size)); have P_5 := hid (P_4.out.bel hbxQ); have Pc0_5 := P_5.out.c0; have Pc1_5 := P_5.out.c1; clear Pc0_4 Pc1_4; have LP_5 := hid (LP_4.out.bel hbxQ); have Q_5 := hid (show Bx w4_.heap.size (n) (.slice pQ nQ kQ) w4b_ from (by rw [← hwQ]; exact Bx.new _ _ _)); have Qc0_5 := Q_5.out.c0; have Qc1_5 := Q_5.out.c1; have LQ_5 := hid (show LL (· < w4b_.heap.size) w4b_ (.slice pQ nQ kQ) (cls) from hlQ.up hbxQ); have HWQ := hid hwQ; clear hwQ hlQ hbxQ; clear hb4)
        | (rw [HWQ.out])
        | (go_at_call 19; with_reducible refine (chk_is w4b_ HF.out LP_5.out).mono ?_; rintro e w6_ ⟨rfl, hb6⟩; have HBel6 := hid (show Below w.heap.size w w6_ from HBel5.out.trans (hb6.mono HBel5.out.size)); have P_6 := hid (P_5.out.bel hb6); have Pc0_6 := P_6.out.c0; have Pc1_6 := P_6.out.c1; clear Pc0_5 Pc1_5; have Q_6 := hid (Q_5.out.bel hb6); have Qc0_6 := Q_6.out.c0; have Qc1_6 := Q_6.out.c1; clear Qc0_5 Qc1_5; have LP_6 := hid (LP_5.out.bel hb6); have LQ_6 := hid (LQ_5.out.bel hb6); clear hb6)
        | (go_at_call 17; with_reducible refine (eqf_is (decide_eq_true ⟨rfl, rfl⟩) LP_6.out LQ_6.out).mono ?_; rintro e w7_ ⟨rfl, hb7⟩; have HBel7 := hid (show Below w.heap.size w w7_ from HBel6.out.trans (hb7.mono HBel6.out.size)); have P_7 := hid (P_6.out.bel hb7); have Pc0_7 := P_7.out.c0; have Pc1_7 := P_7.out.c1; clear Pc0_6 Pc1_6; have Q_7 := hid (Q_6.out.bel hb7); have Qc0_7 := Q_7.out.c0; have Qc1_7 := Q_7.out.c1; clear Qc0_6 Qc1_6; have LP_7 := hid (LP_6.out.bel hb7); have LQ_7 := hid (LQ_6.out.bel hb7); clear hb7)
        | (go_at_call 12; with_reducible refine (known_any w7_ (HE.out.below HBel7.out)).mono ?_; rintro e w8_ ⟨rfl, hb8⟩; have HBel8 := hid (show Below w.heap.size w w8_ from HBel7.out.trans (hb8.mono HBel7.out.size)); have P_8 := hid (P_7.out.bel hb8); have Pc0_8 := P_8.out.c0; have Pc1_8 := P_8.out.c1; clear Pc0_7 Pc1_7; have Q_8 := hid (Q_7.out.bel hb8); have Qc0_8 := Q_8.out.c0; have Qc1_8 := Q_8.out.c1; clear Qc0_7 Qc1_7; have LP_8 := hid (LP_7.out.bel hb8); have LQ_8 := hid (LQ_7.out.bel hb8); clear hb8))
      go_ret
      exact ⟨rfl, HBel8.out⟩
    · obtain ⟨rfl, rfl, hl1, hl2⟩ := parse_bad (by omega) hpm he
      have q0 : (er != 0) = true := by simp [he]
      have hcn := cnt_le s
      have HPM := hid hpm
      have HL2 := hid hl2
      have HCN := hid (show ∀ i, cntNL (sb.data.toList.take i) ≤ 2000 from fun i => by
        have h1 := cnt_le (sb.data.toList.take i)
        have h2 : (sb.data.toList.take i).length ≤ 2000 := by rw [List.length_take, len_data]; omega
        omega)
      clear hpm hsb he hl hcn hl2
      go_enter Tryd.func7, Tryd.ntmps7
      go_wp2_with (first
        | (go_at_call 15; with_reducible refine (prs_sb HSB.out HPM.out w HE.out).mono ?_; rintro e w1_ ⟨vP, rfl, hlP, hb1⟩; obtain ⟨pP, nP, kP, rfl⟩ := hlP.slc; have HBel1 := hid (show Below w.heap.size w w1_ from hb1); (obtain ⟨w1b_, hwP⟩ : ∃ x, w1_.alloc (.cells #[.int .i64 (0), .slice pP nP kP] 24) = x := ⟨_, rfl⟩); have hbxP : Below w1_.heap.size w1_ w1b_ := (by rw [← hwP]; exact (Below.refl _ _).alloc (Nat.le_refl _) _); have HBel2 := hid (show Below w.heap.size w w1b_ from HBel1.out.trans (hbxP.mono HBel1.out.size)); have P_2 := hid (show Bx w1_.heap.size (0) (.slice pP nP kP) w1b_ from (by rw [← hwP]; exact Bx.new _ _ _)); have Pc0_2 := P_2.out.c0; have Pc1_2 := P_2.out.c1; have LP_2 := hid (show LL (· < w1b_.heap.size) w1b_ (.slice pP nP kP) ([]) from hlP.up hbxP); have HWP := hid hwP; clear hwP hlP hbxP; clear hb1)
        | (rw [HWP.out]))
      have hc0 := P_2.out.c0; have hc1 := P_2.out.c1
      go_loopw [6, 7] (fun lv iv wr => ∃ i : Nat, i ≤ sb.size ∧ iv = .int .i64 (i : Int) ∧ lv = .int .i64 ((cntNL (sb.data.toList.take i) + 1 : Nat) : Int) ∧ wr = w1b_) (fun _ iv _ => sb.size - (intOf iv).toNat)
      case atStart => exact ⟨0, Nat.zero_le _, rfl, rfl, rfl⟩
      case round =>
        obtain ⟨i, hi, rfl, rfl, hwr⟩ := hrel
        subst hwr
        by_cases hlt : i < sb.size
        · have g1 : decide ((i : Int) < (sb.size : Int)) = true := by simp; omega
          have hct := cnt_take sb i hlt
          have hcb := HCN.out i
          obtain ⟨C, hC⟩ : ∃ C, cntNL (sb.data.toList.take i) = C := ⟨_, rfl⟩
          rw [hC] at hct hcb ⊢
          have HCT := hid hct
          obtain ⟨u, hu⟩ : ∃ u : Nat, sb[i].toNat = u := ⟨_, rfl⟩
          clear hct hC
          by_cases h10 : u = 10
          · have e1 : ((u : Int) == 10) = true := by rw [h10]; rfl
            have HX := hid (show cntNL (sb.data.toList.take (i + 1)) = C + 1 from by rw [HCT.out, if_pos (UInt8.toNat_inj.1 (by rw [hu, h10]; rfl))])
            clear h10
            go_wp2_with fail
            go_roundw
            case rel => exact ⟨i + 1, by omega, by go_num, by rw [HX.out]; go_num, (by first | rfl | trivial)⟩
            case measure => (simp [intOf] <;> omega)
          · have e1 : ((u : Int) == 10) = false := by rw [beq_eq_false_iff_ne]; omega
            have HX := hid (show cntNL (sb.data.toList.take (i + 1)) = C from by rw [HCT.out, if_neg (fun e => h10 (by rw [← hu, e]; rfl))]; rfl)
            clear h10
            go_wp2_with fail
            go_roundw
            case rel => exact ⟨i + 1, by omega, by go_num, by rw [HX.out], (by first | rfl | trivial)⟩
            case measure => (simp [intOf] <;> omega)
        · obtain rfl : i = sb.size := by omega
          have g1 : decide (((sb.size : Nat) : Int) < (sb.size : Int)) = false := by simp
          have hfull : sb.data.toList.take sb.size = s := by rw [HLL.out]; exact List.take_of_length_le (Nat.le_of_eq (len_data sb))
          have hcb := HCN.out sb.size
          rw [hfull] at hcb ⊢
          obtain ⟨C, hC⟩ : ∃ C, cntNL s = C := ⟨_, rfl⟩
          rw [hC] at hcb ⊢
          have hl2 := HL2.out
          rw [hC] at hl2
          have z1 : decide (1 ≤ ln) = true := by simp; omega
          have z2 : decide (ln ≤ ((C + 1 : Nat) : Int) + 1) = true := by simp; omega
          have z3 : decide (ln ≤ (C : Int) + 1 + 1) = true := by simp; omega
          clear hfull hC hlt
          go_wp2_with (first
            | (go_at_call 17; with_reducible refine (eqf_is (decide_eq_true ⟨rfl, rfl⟩) LP_2.out LL.nil').mono ?_; rintro e w3_ ⟨rfl, hb3⟩; have HBel3 := hid (show Below w.heap.size w w3_ from HBel2.out.trans (hb3.mono HBel2.out.size)); have P_3 := hid (P_2.out.bel hb3); have Pc0_3 := P_3.out.c0; have Pc1_3 := P_3.out.c1; clear Pc0_2 Pc1_2; have LP_3 := hid (LP_2.out.bel hb3); clear hb3)
            | (go_at_call 12; with_reducible refine (known_any w3_ (HE.out.below HBel3.out)).mono ?_; rintro e w4_ ⟨rfl, hb4⟩; have HBel4 := hid (show Below w.heap.size w w4_ from HBel3.out.trans (hb4.mono HBel3.out.size)); have P_4 := hid (P_3.out.bel hb4); have Pc0_4 := P_4.out.c0; have Pc1_4 := P_4.out.c1; clear Pc0_3 Pc1_3; have LP_4 := hid (LP_3.out.bel hb4); clear hb4))
          go_ret
          exact ⟨rfl, HBel4.out⟩

theorem valid_walkS (s : ByteArray) (w : World) (hsz : s.size ≤ maxLen) (hE : Env w) : Calls Tryd.prog 7 #[.string s] w fun e w' => e = .returned (.bool true) ∧ Below w.heap.size w w' := by
  obtain ⟨⟨l⟩⟩ := s
  exact valid_walk l w hE

end Go.Proofs.YtfllhhgnflpagaaDoor
