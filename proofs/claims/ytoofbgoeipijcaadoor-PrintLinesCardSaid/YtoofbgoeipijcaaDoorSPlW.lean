/-
  The law PrintLines.
-/
import Derived.Test.YtoofbgoeipijcaaDoorSPlP
import Derived.Test.YtoofbgoeipijcaaDoorSPcC
import Derived.Test.YtoofbgoeipijcaaDoorSPqW
import Derived.Test.YtoofbgoeipijcaaDoorSPgP
import Derived.Test.YtoofbgoeipijcaaDoorShelf
import Derived.Deep.DeepCutAuto
namespace Go.Proofs.YtoofbgoeipijcaaDoor
set_option linter.unusedSimpArgs false
set_option linter.unusedVariables false
open Go.RowKit Go.Shelf
attribute [local go_sem] Oper.semAt_some

theorem args_of {p : Pg} (h : QP p) : ArgsOk p := ⟨fun f hf x hx => ((h.2.2.2.1 f hf).2.2.1 x hx).2.2.2.2.1, fun x hx => (h.2.2.2.2 x hx).2.2.2.2.1⟩
theorem codes_mono (l : List Fu) (k : Nat) (hk : k ≤ l.length) : codesN l k ≤ codesN l l.length := by
  unfold codesN
  rw [List.take_length]
  conv => rhs; rw [← List.take_append_drop k l, List.map_append, List.sum_append]
  omega
set_option maxRecDepth 100000 in
set_option maxHeartbeats 8000000 in
/-- The law PrintLines. -/
theorem printLines_any (p : Pg) (a b c d : Value) (w : World) (hp : PgV (· < w.heap.size) w a b c d p) (hq : QP p) (hE : PrE w) (m : Int) (hm : w.cell? ⟨0, 0, none⟩ = some (.int .i64 m)) :
    Calls Tryd.prog 5 #[.agg #[.int .i64 p.width, a, b, c, d]] w fun e w' => e = .returned (.bool true) ∧ Below w.heap.size w w' := by
  obtain ⟨pa, ca, hva⟩ := hp.1.slc
  obtain ⟨pb, cb, hvb⟩ := hp.2.1.slc
  obtain ⟨pc, cc, hvc⟩ := hp.2.2.1.slc
  obtain ⟨pd, cd, hvd⟩ := hp.2.2.2.slc
  subst hva hvb hvc hvd
  obtain ⟨hok, hnum⟩ := few_ok hq
  have HA := hid (args_of hq)
  obtain ⟨q, hqq⟩ : ∃ q, fewP p = q := ⟨_, rfl⟩
  have HQW := hid (show q.width = p.width from by rw [← hqq]; rfl)
  rw [hqq] at hok hnum
  have HQ := hid hqq; have HP := hid hp; have HE := hid hE; have HOK := hid hok; have HNU := hid hnum; have HM := hid hm
  clear hqq hp hq hE hok hnum hm
  go_enter Tryd.func5, Tryd.ntmps5
  go_upto_region 1 with fail
  obtain ⟨wo, hwo⟩ : ∃ W, w.alloc (.cells #[.int .i64 p.width, .slice pa p.chans.length ca, .slice pb p.arrays.length cb, .slice pc p.funcs.length cc, .slice pd p.main.length cd] 40) = W := ⟨_, rfl⟩
  have HB := hid (show Below w.heap.size w wo from by rw [← hwo]; exact (Below.refl _ _).alloc (Nat.le_refl _) _)
  have hx : BxL 40 w.heap.size [.int .i64 p.width, .slice pa p.chans.length ca, .slice pb p.arrays.length cb, .slice pc p.funcs.length cc, .slice pd p.main.length cd] wo := by rw [← hwo]; exact BxL.new _ _ _
  have HSO := hid (show wo.heap.size = w.heap.size + 1 from by rw [← hwo, World.size_alloc])
  rw [hwo]
  clear hwo
  have n0 : wo.cell? ⟨w.heap.size, 0, none⟩ = some (.int .i64 p.width) := hx.at 0 rfl
  have n1 : wo.cell? ⟨w.heap.size, 1, none⟩ = some (.slice pa p.chans.length ca) := hx.at 1 rfl
  have n2 : wo.cell? ⟨w.heap.size, 2, none⟩ = some (.slice pb p.arrays.length cb) := hx.at 2 rfl
  have n3 : wo.cell? ⟨w.heap.size, 3, none⟩ = some (.slice pc p.funcs.length cc) := hx.at 3 rfl
  have n4 : wo.cell? ⟨w.heap.size, 4, none⟩ = some (.slice pd p.main.length cd) := hx.at 4 rfl
  have HX := hid hx
  clear hx
  go_upto_region 2 with (go_at_call 12; (refine (pgfew_any p _ _ _ _ _ (HP.out.below HB.out) HA.out).mono ?_); rintro e w1 ⟨a1, b1, c1, d1, rfl, hg, hb⟩; rw [HQ.out] at hg; obtain ⟨qa, xa, h1⟩ := hg.1.slc; obtain ⟨qb, xb, h2⟩ := hg.2.1.slc; obtain ⟨qc, xc, h3⟩ := hg.2.2.1.slc; obtain ⟨qd, xd, h4⟩ := hg.2.2.2.slc; subst h1 h2 h3 h4; have HG1 := hid hg; have HB1 := hid (HB.out.trans (hb.mono HB.out.size)); have hx1 := HX.out.bel hb; have HX1 := hid hx1; clear hg hb n0 n1 n2 n3 n4; have n0 : w1.cell? ⟨w.heap.size, 0, none⟩ = some (.int .i64 p.width) := HX1.out.at 0 rfl; have f0 : w1.frozen? ⟨w.heap.size, 0, none⟩ = false := HX1.out.fr 0; have n1 : w1.cell? ⟨w.heap.size, 1, none⟩ = some (.slice pa p.chans.length ca) := HX1.out.at 1 rfl; have f1 : w1.frozen? ⟨w.heap.size, 1, none⟩ = false := HX1.out.fr 1; have n2 : w1.cell? ⟨w.heap.size, 2, none⟩ = some (.slice pb p.arrays.length cb) := HX1.out.at 2 rfl; have f2 : w1.frozen? ⟨w.heap.size, 2, none⟩ = false := HX1.out.fr 2; have n3 : w1.cell? ⟨w.heap.size, 3, none⟩ = some (.slice pc p.funcs.length cc) := HX1.out.at 3 rfl; have f3 : w1.frozen? ⟨w.heap.size, 3, none⟩ = false := HX1.out.fr 3; have n4 : w1.cell? ⟨w.heap.size, 4, none⟩ = some (.slice pd p.main.length cd) := HX1.out.at 4 rfl; have f4 : w1.frozen? ⟨w.heap.size, 4, none⟩ = false := HX1.out.fr 4; clear hx1)
  obtain ⟨w2, hw2⟩ : ∃ W, ((((w1.setCell ⟨w.heap.size, 0, none⟩ (.int .i64 p.width)).setCell ⟨w.heap.size, 1, none⟩ (.slice qa q.chans.length xa)).setCell ⟨w.heap.size, 2, none⟩ (.slice qb q.arrays.length xb)).setCell ⟨w.heap.size, 3, none⟩ (.slice qc q.funcs.length xc)).setCell ⟨w.heap.size, 4, none⟩ (.slice qd q.main.length xd) = W := ⟨_, rfl⟩
  have HX2 := hid (show BxL 40 w.heap.size [.int .i64 p.width, .slice qa q.chans.length xa, .slice qb q.arrays.length xb, .slice qc q.funcs.length xc, .slice qd q.main.length xd] w2 from by rw [← hw2]; exact ((((HX1.out.set 0 _).set 1 _).set 2 _).set 3 _).set 4 _)
  have HB2 := hid (show Below w.heap.size w w2 from by rw [← hw2]; exact ((((HB1.out.setCell (p := ⟨w.heap.size, 0, none⟩) (Nat.le_refl _) _).setCell (p := ⟨w.heap.size, 1, none⟩) (Nat.le_refl _) _).setCell (p := ⟨w.heap.size, 2, none⟩) (Nat.le_refl _) _).setCell (p := ⟨w.heap.size, 3, none⟩) (Nat.le_refl _) _).setCell (p := ⟨w.heap.size, 4, none⟩) (Nat.le_refl _) _)
  have HG2 := hid (show PgV (· < w2.heap.size) w2 (.slice qa q.chans.length xa) (.slice qb q.arrays.length xb) (.slice qc q.funcs.length xc) (.slice qd q.main.length xd) q from HG1.out.keep fun k hk => ⟨by rw [← hw2]; simp only [World.size_setCell]; exact hk.2, by rw [← hw2]; have hne : k ≠ w.heap.size := (by have := HSO.out; omega); rw [heap_ot hne, heap_ot hne, heap_ot hne, heap_ot hne, heap_ot hne]⟩)
  rw [hw2]
  clear hw2 n0 n1 n2 n3 n4 f0 f1 f2 f3 f4
  have n0 : w2.cell? ⟨w.heap.size, 0, none⟩ = some (.int .i64 p.width) := HX2.out.at 0 rfl
  have n1 : w2.cell? ⟨w.heap.size, 1, none⟩ = some (.slice qa q.chans.length xa) := HX2.out.at 1 rfl
  have n2 : w2.cell? ⟨w.heap.size, 2, none⟩ = some (.slice qb q.arrays.length xb) := HX2.out.at 2 rfl
  have n3 : w2.cell? ⟨w.heap.size, 3, none⟩ = some (.slice qc q.funcs.length xc) := HX2.out.at 3 rfl
  have n4 : w2.cell? ⟨w.heap.size, 4, none⟩ = some (.slice qd q.main.length xd) := HX2.out.at 4 rfl
  obtain ⟨S, E, hSE⟩ : ∃ S E, printM q = (S, E) := ⟨_, _, rfl⟩
  have HSE := hid hSE
  clear hSE
  go_upto_region 3 with (go_at_call 13; (refine ((show Calls Tryd.prog 13 #[.agg #[.int .i64 p.width, .slice qa q.chans.length xa, .slice qb q.arrays.length xb, .slice qc q.funcs.length xc, .slice qd q.main.length xd]] w2 _ from by rw [← HQW.out]; exact print_any q _ _ _ _ _ (HE.out.below HB2.out) HG2.out HOK.out HNU.out)).mono ?_); rintro e w3 ⟨rfl, hb⟩; rw [HSE.out]; have HB3 := hid (HB2.out.trans (hb.mono HB2.out.size)); have HX3 := hid (HX2.out.bel hb); have HG3 := hid (HG2.out.below hb); clear hb)
  clear n0 n1 n2 n3 n4
  by_cases hE0 : E = 0
  · have hck : (checkM q).2 = 0 := by
      have h := HSE.out
      unfold printM at h
      by_cases h0 : (checkM q).2 = 0
      · exact h0
      · rw [if_pos h0] at h; have h1 := congrArg Prod.snd h; simp only at h1; omega
    have hS : S = textT (linesT q) ∧ (textT (linesT q)).length ≤ 65536 := by
      have h := HSE.out
      unfold printM at h
      rw [if_neg (by rw [hck]; decide)] at h
      split at h
      · have h1 := congrArg Prod.snd h; simp only at h1; omega
      · exact ⟨(congrArg Prod.fst h).symm, by omega⟩
    subst hE0
    obtain ⟨ls, s1, ml, s2, hpt⟩ := check_parts q hck
    have HPT := hid hpt; have HCK := hid hck; have HS := hid hS
    have hC : q.chans.length ≤ 32 := hpt.nch
    have hAr : q.arrays.length ≤ 32 := hpt.nar
    have hF : q.funcs.length ≤ 32 := hpt.nfs
    have hMn : q.main.length ≤ 1024 := hpt.nmain
    have hN0 := (lines_len q hck HNU.out).1
    clear hpt hck hS
    have n0 : w3.cell? ⟨w.heap.size, 0, none⟩ = some (.int .i64 p.width) := HX3.out.at 0 rfl
    have n1 : w3.cell? ⟨w.heap.size, 1, none⟩ = some (.slice qa q.chans.length xa) := HX3.out.at 1 rfl
    have n2 : w3.cell? ⟨w.heap.size, 2, none⟩ = some (.slice qb q.arrays.length xb) := HX3.out.at 2 rfl
    have n3 : w3.cell? ⟨w.heap.size, 3, none⟩ = some (.slice qc q.funcs.length xc) := HX3.out.at 3 rfl
    have n4 : w3.cell? ⟨w.heap.size, 4, none⟩ = some (.slice qd q.main.length xd) := HX3.out.at 4 rfl
    obtain ⟨hS1, hS2⟩ := HS.out
    subst hS1
    have HS2 := hid hS2
    clear hS2
    obtain ⟨Z, hZ⟩ : ∃ Z, 1 + q.chans.length + q.arrays.length + 2 * q.funcs.length + 2 + q.main.length = Z := ⟨_, rfl⟩
    have HZ := hid hZ
    have HNZ := hid (show Z + codesN q.funcs q.funcs.length = (linesT q).length from by rw [lines_size, L3_len]; omega)
    have HN0 := hid hN0
    clear hZ hN0
    go_wp2_with fail
    go_loopw [5, 6] (fun sv iv wr => ∃ k : Nat, k ≤ q.funcs.length ∧ iv = .int .i64 (k : Int) ∧ sv = .int .i64 ((Z + codesN q.funcs k : Nat) : Int) ∧ w3 = wr) (fun _ iv _ => q.funcs.length - (intOf iv).toNat)
    case atStart => exact ⟨0, Nat.zero_le _, rfl, by have h0 : codesN q.funcs 0 = 0 := rfl; rw [← HZ.out, h0]; first | rfl | (show Value.int .i64 _ = Value.int .i64 _; congr 1; push_cast; omega) | (show Value.int .i64 _ = Value.int .i64 _; push_cast; rfl) | (simp; done), by first | rfl | trivial⟩
    case round =>
      obtain ⟨k, hk, rfl, rfl, rfl⟩ := hrel
      by_cases hlt : k < q.funcs.length
      · obtain ⟨b1, o1, rfl, hR, hcells⟩ := fu_at HG3.out.2.2.1 (by omega : 0 < q.funcs.length)
        obtain ⟨pp, cp, pq, cq, hpar, hcode, c0, c1, c2, c3, c4⟩ := hcells k hlt
        obtain ⟨cl, hcl⟩ : ∃ n, q.funcs[k].code.length = n := ⟨_, rfl⟩
        obtain ⟨SC, hSC⟩ : ∃ n, codesN q.funcs k = n := ⟨_, rfl⟩
        have HCN := hid (show codesN q.funcs (k + 1) = SC + cl from by rw [codes_next _ _ hlt, hcl, hSC])
        have hb1 : Z + SC + cl ≤ 40000 := by have h1 := codes_mono q.funcs (k + 1) hlt; have h2 := HCN.out; have h3 := HNZ.out; have h4 := HN0.out; omega
        rw [hSC]
        rw [hcl] at c2
        have HLT := hid hlt
        clear hcells hpar hcode c0 c1 c3 c4 hR hcl hSC
        go_wp2_with fail
        go_roundw
        case rel => exact ⟨k + 1, HLT.out, by first | (rw [wrap_next HLT.out (by omega)]) | rfl, by rw [HCN.out]; first | rfl | (show Value.int .i64 _ = Value.int .i64 _; congr 1; push_cast; omega) | (show Value.int .i64 _ = Value.int .i64 _; congr 1; omega), by first | rfl | trivial⟩
        case measure => first | exact meas_next HLT.out (by omega) | (have h1 := HLT.out; simp [intOf]; omega)
      · obtain rfl : k = q.funcs.length := by omega
        obtain ⟨N, hN⟩ : ∃ N, Z + codesN q.funcs q.funcs.length = N := ⟨_, rfl⟩
        have hNL : (linesT q).length = N := by rw [← hN]; exact HNZ.out.symm
        rw [hN]
        have HNL := hid hNL
        obtain ⟨K, hK⟩ : ∃ K, (L3 q).length = K := ⟨_, rfl⟩
        have hNK : N = K + q.main.length + 2 := by rw [← hNL, lines_size, hK]
        have hNb : N ≤ 40000 := by rw [← hNL]; exact HN0.out
        obtain ⟨N1, hN1⟩ : ∃ n, K + 1 + q.main.length = n := ⟨_, rfl⟩
        obtain ⟨N2, hN2⟩ : ∃ n, K + q.main.length = n := ⟨_, rfl⟩
        obtain ⟨K1, hK1⟩ : ∃ n, K + 1 = n := ⟨_, rfl⟩
        have HSC := hid (split_cells (linesT q) (lines_nonl q HCK.out))
        have HLA := hid (show (linesT q ++ [[]])[N]? = some [] from by rw [show N = (L3 q).length + 2 + q.main.length by omega]; exact line_last q)
        have HLE := hid (show (linesT q ++ [[]])[N1]? = some wEnd from by rw [← hN1, ← hK]; exact line_end q)
        have HLM := hid (show (linesT q ++ [[]])[K]? = some wMain from by rw [← hK]; exact line_main q)
        have HLI := hid (show ∀ i (hi : i < q.main.length), (linesT q ++ [[]])[K1 + i]? = some (lineM q.main[i]) from fun i hi => by rw [← hK1, ← hK]; exact line_instr q i hi)
        have hI1 : (N : Int) - 1 = (N1 : Int) := by omega
        have hI2 : (N : Int) - 2 = (N2 : Int) := by omega
        have hI3 : (N2 : Int) - (q.main.length : Int) = (K : Int) := by omega
        have hI4 : (N1 : Int) - (q.main.length : Int) = (K1 : Int) := by omega
        have hJ1 : N1 ≤ N := by omega
        have hJ2 : N2 ≤ N := by omega
        have hJ3 : K ≤ N := by omega
        have HJ4 := hid (show ∀ i, i < q.main.length → K1 + i ≤ N from fun i hi => by omega)
        have HMS := hid ((HB3.out.cell (p := ⟨0, 0, none⟩) (cell_size HM.out)).trans HM.out)
        clear hN hNL hNK hN1 hN2 hK1 hK hlt hk hC hAr hF
        go_upto_region 11 with (go_at_call 16; (refine (Tryd.strings_Split ⟨(textT (linesT q)).toArray⟩ ⟨#[10]⟩ m w3 (by show (textT (linesT q)).length < _; have := HS2.out; omega) HMS.out (by decide)).mono ?_); rintro e w4 ⟨rfl, hw4⟩; rw [HSC.out.1] at hw4 ⊢; rw [HSC.out.2] at hw4; rw [HNL.out]; have HX4 := hid (show BxL 9 w3.heap.size ((linesT q ++ [[]]).map sv) w4 from by rw [hw4]; exact BxL.new _ _ _); have hb4 : Below w3.heap.size w3 w4 := (by rw [hw4]; exact (Below.refl _ _).alloc (Nat.le_refl _) _); have HB4 := hid (HB3.out.trans (hb4.mono HB3.out.size)); have HQ4 := hid (HX3.out.bel hb4); have HG4 := hid (HG3.out.below hb4); clear hw4 hb4)
        have cA : w4.cell? ⟨w3.heap.size, N, none⟩ = some (.string ⟨#[]⟩) := HX4.out.at N (by rw [List.getElem?_map, HLA.out]; rfl)
        have cB : w4.cell? ⟨w3.heap.size, N1, none⟩ = some (.string ⟨#[101, 110, 100]⟩) := HX4.out.at N1 (by rw [List.getElem?_map, HLE.out]; rfl)
        have cC : w4.cell? ⟨w3.heap.size, K, none⟩ = some (.string ⟨#[109, 97, 105, 110]⟩) := HX4.out.at K (by rw [List.getElem?_map, HLM.out]; rfl)
        have m4 : w4.cell? ⟨w.heap.size, 4, none⟩ = some (.slice qd q.main.length xd) := HQ4.out.at 4 rfl
        clear n0 n1 n2 n3 n4
        go_wp2_with fail
        trace_state
        clear cA cB cC m4
        have HJ3 := hid hI4
        go_loopw [8] (fun iv wr => ∃ i : Nat, i ≤ q.main.length ∧ iv = .int .i64 (i : Int) ∧ Below w4.heap.size w4 wr) (fun iv _ => q.main.length - (intOf iv).toNat)
        case atStart => exact ⟨0, Nat.zero_le _, rfl, Below.refl _ _⟩
        case round =>
          obtain ⟨i, hi, rfl, hb⟩ := hrel
          have m4 : wr.cell? ⟨w.heap.size, 4, none⟩ = some (.slice qd q.main.length xd) := (HQ4.out.bel hb).at 4 rfl
          by_cases hlt : i < q.main.length
          · obtain ⟨b2, o2, rfl, hR, hcells⟩ := in_at HG4.out.2.2.2 (by omega : 0 < q.main.length)
            obtain ⟨pi, ci, hargs, q0, q1, q2, q3, q4, q5, q6⟩ := hcells i hlt
            have q0 := (hb.cell (p := ⟨b2, o2 + i * 7, none⟩) hR).trans q0
            have q1 := (hb.cell (p := ⟨b2, o2 + i * 7 + 1, none⟩) hR).trans q1
            have q2 := (hb.cell (p := ⟨b2, o2 + i * 7 + 2, none⟩) hR).trans q2
            have q3 := (hb.cell (p := ⟨b2, o2 + i * 7 + 3, none⟩) hR).trans q3
            have q4 := (hb.cell (p := ⟨b2, o2 + i * 7 + 4, none⟩) hR).trans q4
            have q5 := (hb.cell (p := ⟨b2, o2 + i * 7 + 5, none⟩) hR).trans q5
            have q6 := (hb.cell (p := ⟨b2, o2 + i * 7 + 6, none⟩) hR).trans q6
            have HFX := hid (body_form _ _ _ _ _ HPT.out.main q.main[i] (List.getElem_mem hlt))
            have HNX := hid (show ∀ a ∈ q.main[i].args, a.num < 18446744073709551616 from fun a ha => by have : a.num ≤ 18446744073709551615 := HNU.out.main q.main[i] (List.getElem_mem hlt) a ha; omega)
            have HKX := hid (HOK.out.main q.main[i] (List.getElem_mem hlt))
            have HAX := hid (hargs.below hb)
            have HIX := hid (show instrM q.main[i] = (lineM q.main[i], 0) from by unfold instrM; rw [if_pos HFX.out])
            have HLX := hid (HLI.out i hlt)
            have hJ5 : K1 + i ≤ N := HJ4.out i hlt
            have HLT := hid hlt; have HBR := hid hb
            clear hcells hargs hR hb
            generalize q.main[i] = x at *
            obtain ⟨LNX, hLNX⟩ : ∃ L, lineM x = L := ⟨_, rfl⟩
            rw [hLNX] at HIX HLX
            clear hLNX
            go_wp2_with (go_at_call 8; (refine (instr_any x _ _ HKX.out (by have := (form_s HFX.out HNX.out).alen; omega) HNX.out HAX.out (HE.out.below (HB4.out.trans (HBR.out.mono HB4.out.size)))).mono ?_); rintro e w6 ⟨rfl, hb6⟩; rw [HIX.out]; have hb46 : Below w4.heap.size w4 w6 := HBR.out.trans (hb6.mono HBR.out.size); have HB6 := hid hb46; have m6 : w6.cell? ⟨w.heap.size, 4, none⟩ = some (.slice (some ⟨b2, o2, none⟩) q.main.length xd) := (HQ4.out.bel hb46).at 4 rfl; have cL : w6.cell? ⟨w3.heap.size, K1 + i, none⟩ = some (.string ⟨LNX.toArray⟩) := (HX4.out.bel hb46).at (K1 + i) (by rw [List.getElem?_map, HLX.out]; rfl); clear hb6 hb46 m4 q0 q1 q2 q3 q4 q5 q6)
            go_roundw
            case rel => exact ⟨i + 1, HLT.out, by first | (rw [wrap_next HLT.out (by omega)]) | rfl, HB6.out⟩
            case measure => first | exact meas_next HLT.out (by omega) | (have h1 := HLT.out; simp [intOf]; omega)
          · obtain rfl : i = q.main.length := by omega
            have HBR := hid hb
            clear hb hlt hi
            go_wp2_with (go_at_call 11; (refine (awake24_any _ (HE.out.below (HB4.out.trans (HBR.out.mono HB4.out.size)))).mono ?_); rintro e w7 ⟨rfl, hb⟩; have HB7 := hid ((HB4.out.trans (HBR.out.mono HB4.out.size)).trans (hb.mono (by have h1 := HB4.out.size; have h2 := HBR.out.size; omega))); clear hb)
            go_ret
            exact ⟨rfl, HB7.out⟩
  · have t1 : (E == 0) = false := by rw [beq_eq_false_iff_ne]; exact hE0
    go_wp2_with (go_at_call 11; (refine (awake24_any _ (HE.out.below HB3.out)).mono ?_); rintro e w4 ⟨rfl, hb⟩; have HB4 := hid (HB3.out.trans (hb.mono HB3.out.size)); clear hb)
    go_ret
    exact ⟨rfl, HB4.out⟩

end Go.Proofs.YtoofbgoeipijcaaDoor
