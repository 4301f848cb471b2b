/-
  The walk of the reference's Decide.
-/
import Derived.Test.YtjcnhnifageikaaDoorDec2
import Derived.BigQuiet
import Derived.Deep.QuietTactic
namespace Go.Proofs.YtjcnhnifageikaaDoor
set_option linter.unusedSimpArgs false
set_option linter.unusedVariables false
open Go.RowKit

theorem info_i8 : (Tryd.prog.info? 80).map (fun i => (i.zero, i.size, i.bytes)) = some (some (.int .i8 0), 1, 1) := by kernel_rfl

set_option maxRecDepth 100000 in
set_option maxHeartbeats 3200000 in
theorem decide_any (n : Nat) (σ : Nat → Bool) (F : Form) (sm : List Int) (vc va : Value) (w : World) (hG : Good n σ F) (hv : F.vars ≤ 1048576) (hcl : F.cls.length ≤ 1048576)
    (hLL : LL (· < w.heap.size) w vc F.cls) (hS : Ints (· < w.heap.size) w va sm) (hSo : ∀ x ∈ sm, okLit F.vars x = true ∧ litT σ x = true) (hSl : sm.length ≤ 1048576) (hSi : ∀ v, 2 ≤ v → v ≤ n + 1 → ∃ x ∈ sm, x.natAbs = v) :
    Calls Tryd.prog 19 #[.agg #[.int .i64 F.vars, vc], va] w fun e w' =>
      ∃ v k, e = .returned (.tuple #[v, .bool true]) ∧ I8s (fun j => w.heap.size ≤ j ∧ j < w'.heap.size) w' v k ∧ k.length = F.vars + 1 ∧ k.getD 0 0 = 0 ∧ (∀ v, 1 ≤ v → v ≤ F.vars → k.getD v 0 = (if σ v then 1 else -1)) ∧ Below w.heap.size w w' := by
  obtain ⟨vs, hsl, hvl, hvi⟩ := hLL
  obtain ⟨pc, cc, rfl, _, _, _, hrc⟩ := hsl
  obtain ⟨pa, ca, rfl, _, _, _, hra⟩ := hS.op
  have hin := hG.inp
  have hmk1 : ∀ w : World, (Instr.makeSlice 47 (.int .i64 ((F.vars : Int) + 1)) (.int .i64 ((F.vars : Int) + 1))).run Tryd.prog w = .ok (.slice (some ⟨w.heap.size, 0, none⟩) (F.vars + 1) (F.vars + 1)) (w.alloc (.cells (Array.replicate (F.vars + 1) (.int .i8 0)) 80)) := fun w => by
    have := make_run (t := 47) (P := Tryd.prog) (by kernel_rfl) info_i8 rfl (F.vars + 1) (by omega) (by omega) w
    rw [Int.natCast_add] at this; exact this
  have hmk2 : ∀ w : World, (Instr.makeSlice 50 (.int .i64 (2 * (F.vars : Int) + 2)) (.int .i64 (2 * (F.vars : Int) + 2))).run Tryd.prog w = .ok (.slice (some ⟨w.heap.size, 0, none⟩) (2 * F.vars + 2) (2 * F.vars + 2)) (w.alloc (.cells (Array.replicate (2 * F.vars + 2) (.slice none 0 0)) 23)) := fun w => by
    have := make_run (t := 50) (P := Tryd.prog) Tryd.underlying50 info_ints rfl (2 * F.vars + 2) (by omega) (by omega) w
    rw [Int.natCast_add, Int.natCast_mul] at this; exact this
  rw [hvl]
  have HVL := hid hvl
  have hM0 : DecM w F.vars (.slice pc F.cls.length cc) (List.replicate (F.vars + 1) 0) (List.replicate (2 * F.vars + 2) []) (.slice none 0 0) [] (((w.alloc (.cells #[.int .i64 F.vars, .slice pc F.cls.length cc] 52)).alloc (.cells (Array.replicate (F.vars + 1) (.int .i8 0)) 80)).alloc (.cells (Array.replicate (2 * F.vars + 2) (.slice none 0 0)) 23)) := by
    obtain ⟨p1, p2⟩ := PlI.start (base := w.heap.size + 3) (Bp := w.heap.size + 2) (n := 2 * F.vars + 2) (w := ((w.alloc (.cells #[.int .i64 F.vars, .slice pc F.cls.length cc] 52)).alloc (.cells (Array.replicate (F.vars + 1) (.int .i8 0)) 80)).alloc (.cells (Array.replicate (2 * F.vars + 2) (.slice none 0 0)) 23)) (by omega) (by simp only [World.size_alloc]; omega)
      (by rw [heap_al, if_pos (by simp only [World.size_alloc])])
    refine ⟨(((Below.refl _ _).alloc (Nat.le_refl _) _).alloc (by simp only [World.size_alloc]; omega) _).alloc (by simp only [World.size_alloc]; omega) _, ?_, ?_, p1, World.ownsRow_nil _ _ _ _, fun g hg => by cases hg⟩
    · rw [heap_al, if_neg (by simp only [World.size_alloc]; omega), heap_al, if_neg (by simp only [World.size_alloc]; omega), heap_al, if_pos rfl]
    · rw [heap_al, if_neg (by simp only [World.size_alloc]; omega), heap_al, if_pos (by simp only [World.size_alloc])]
      simp
  have HM0 := hid hM0; clear hM0 hvl
  have HG := hid hG; have HSO := hid hSo; have HSI := hid hSi; have HVI := hid hvi
  clear hG hSo hSi hvi
  go_enter Tryd.func19, Tryd.ntmps19
  go_wp2_with fail
  go_loopw [8, 9] (fun wk i wr => ∃ (j : Nat) (work : List Int) (pl : List (List Int)), j ≤ F.cls.length ∧ i = .int .i64 j ∧ DecM w F.vars (.slice pc F.cls.length cc) (List.replicate (F.vars + 1) 0) pl wk work wr ∧ pl.length = 2 * F.vars + 2 ∧ PlOk F.cls pl j 0 ∧ WkA σ F j work) (fun _ i _ => F.cls.length - (intOf i).toNat)
  case atStart =>
    exact ⟨0, [], _, Nat.zero_le _, rfl, HM0.out, by simp, PlOk.start _ _, ⟨fun x hx => (by cases hx), fun _ _ h => (by omega), Nat.le_refl _⟩⟩
  case round =>
    obtain ⟨i, work, pl, hi, rfl, hM, hpl, hP, hW⟩ := hrel
    obtain ⟨wo, rfl⟩ : ∃ wo : World, wo = wr := ⟨_, rfl⟩
    obtain ⟨pw, cw, rfl⟩ := own_slice hM.wk
    have hszo := hM.size
    have cb : wo.cell? ⟨w.heap.size, 1, none⟩ = some (.slice pc F.cls.length cc) := by rw [cell_of_cells hM.b0]; rfl
    by_cases hil : i < F.cls.length
    · have hvl := HVL.out
      have HM := hid hM; have HP := hid hP; have HW := hid hW
      obtain ⟨b, off, rfl, hRb, hc⟩ := hrc.at i (by omega)
      have hci := (hM.below.cell (p := ⟨b, off + i, none⟩) hRb).trans (hc i (by omega))
      obtain ⟨pk, ck, ek, _, _, hkm, hrk⟩ := (HVI.out i hil (by omega)).op
      rw [ek] at hci
      have hlc := HG.out.len _ (List.getElem_mem hil)
      have hoc := HG.out.ok _ (List.getElem_mem hil)
      have hl0 : 0 < F.cls[i].length := by cases h : F.cls[i] with | nil => exact absurd h hlc.1 | cons => simp
      have hl4 := hlc.2
      have hPs := fun pl jj a (h : PlOk F.cls pl i jj) hj ha hal => h.step' (j := jj) (a := a) hil hj ha hal
      have hPn := fun pl (h : PlOk F.cls pl i F.cls[i].length) => h.next hil hl4
      have hWs := hW.step HG.out hil
      have HPS := hid hPs; have HPN := hid hPn; have HWS := hid hWs; have HOC := hid hoc; have HRK := hid hrk
      clear hPs hPn hWs hoc hrk hc ek hM hP hW hlc
      generalize F.cls[i] = c at *
      have hclne : ((c.length : Int) == 0) = false := by rw [beq_eq_false_iff_ne]; omega
      go_wp2_with fail
      go_loopw [11] (fun jv wr => ∃ (jj : Nat) (pl : List (List Int)), jj ≤ c.length ∧ jv = .int .i64 jj ∧ DecM w F.vars (.slice (some ⟨b, off, none⟩) F.cls.length cc) (List.replicate (F.vars + 1) 0) pl (.slice pw work.length cw) work wr ∧ pl.length = 2 * F.vars + 2 ∧ PlOk F.cls pl i jj) (fun jv _ => c.length - (intOf jv).toNat)
      case atStart => exact ⟨0, pl, Nat.zero_le _, rfl, HM.out, hpl, HP.out⟩
      case round =>
        obtain ⟨jj, pl, hjj, rfl, hM, hpl, hP⟩ := hrel
        obtain ⟨wi, rfl⟩ : ∃ wi : World, wi = wr := ⟨_, rfl⟩
        have hszi := hM.size
        by_cases hjl : jj < c.length
        · obtain ⟨b2, off2, rfl, hRb2, hc2⟩ := HRK.out.atI jj hjl
          have hcx := (hM.below.cell (p := ⟨b2, off2 + jj, none⟩) hRb2).trans (hc2 jj hjl)
          have hox := HOC.out _ (List.getElem_mem hjl)
          have hsx := okLit_spec.1 hox
          have hbx : Bd c[jj] := Bd.lit hv hox
          obtain ⟨a, ha⟩ : ∃ a : Nat, placeM c[jj] = (a : Int) := ⟨(placeM c[jj]).toNat, by unfold placeM; split <;> omega⟩
          have hal : a < 2 * F.vars + 2 := by have : (a : Int) < 2 * F.vars + 2 := by { rw [← ha]; unfold placeM; split <;> omega }; omega
          have hap : a < pl.length := by omega
          have hst := HPS.out pl jj a hP hjl ha hap
          have hpc := place_any c[jj] wi hbx
          rw [ha] at hpc
          have HST := hid hst; have HPC := hid hpc
          obtain ⟨v, hv1, hv2, hv3, hv4⟩ := hM.pl.at a hap
          have hlen := (hP.all _ (List.getElem_mem hap)).1
          have HM := hid hM
          clear hst hpc hc2 hox hM hP hsx ha
          generalize c[jj] = x at *
          obtain ⟨p1, c1, rfl⟩ := own_slice hv3
          have hv1' : wi.cell? ⟨w.heap.size + 1 + 1, a, none⟩ = some (.slice p1 pl[a].length c1) := hv1
          have hblt := hv3.lt
          have HV := hid hv1; have HV3 := hid hv3; have HV4 := hid hv4
          clear hv1 hv3 hv4 hv2
          go_wp2_with (first
            | (go_at_call 34; refine HPC.out.mono ?_; rintro e w1 ⟨rfl, rfl⟩)
            | (at_builtin; refine wpList_app _ rfl (.tmp 62) (.tmp 64) 23 rfl (w.heap.size + 3) 3 (.int .i64 0) 8 Tryd.underlying23 info_int rfl _ pl[a].length _ rfl (HV3.out.alloc _) (some ⟨wi.heap.size, 0, none⟩) 1 1 [.int .i64 i] rfl rfl (RowR.one _ _ _) (by simp [Value.oneCell']) (by omega) (by unfold maxLen; omega) (by simp only [World.size_alloc]; omega) ?_
               intro v' w4 hown4 hg4 hat4
               obtain ⟨p4, c4, rfl⟩ := own_slice hown4
               have hgA := (World.grownBy_alloc wi (.cells #[.int .i64 i] 3) (Value.slice p1 pl[a].length c1).ownBlock).trans hg4
               have hneB : some (w.heap.size + 1 + 1) ≠ (Value.slice p1 pl[a].length c1).ownBlock := fun e => by have := (hblt _ e.symm).1; omega
               have cv4 : w4.cell? ⟨w.heap.size + 1 + 1, a, none⟩ = some (.slice p1 pl[a].length c1) := hgA.cell hv1' hneB
               have fv4 : w4.frozen? ⟨w.heap.size + 1 + 1, a, none⟩ = false := (hgA.frozen_far ⟨w.heap.size + 1 + 1, a, none⟩ (by show w.heap.size + 1 + 1 < _; omega) hneB).trans (by obtain ⟨_, _, h, _⟩ := HM.out.pl.at a hap; exact h)
               have hM4 := HM.out.place a hap i HV.out hgA hown4 (hat4.imp id (fun e => ⟨_, by simp only [World.size_alloc]; omega, e⟩))
               have HM4 := hid hM4; clear hM4 hgA hg4 hown4 hat4 hneB))
          go_roundw
          case rel => exact ⟨jj + 1, _, by omega, by go_num, HM4.out, by rw [List.length_set]; exact hpl, HST.out⟩
          case measure => simp [intOf]; omega
        · obtain rfl : jj = c.length := by omega
          have hPn := HPN.out pl hP
          have HPN' := hid hPn; have HM := hid hM
          have hrw := HRK.out.keep (R' := (· < wi.heap.size)) (w' := wi) (fun j hj => ⟨by have := hM.size; omega, hM.below.block j hj⟩)
          have hop := open_any (some ⟨w.heap.size + 1, 0, none⟩) pk (F.vars + 1) ck (List.replicate (F.vars + 1) 0) c _ _ wi (fun x hx => Bd.lit hv (HOC.out x hx)) (by simp; omega) hM.krow (by omega) hrw
          rw [List.length_replicate] at hop
          obtain ⟨hr0, hW1⟩ := HWS.out
          have hwl := HW.out.len
          have HWS' := hid hW1
          have hwk := hM.wk
          have HWK := hid hwk
          clear hPn hP hM hrw HWS hW1 hwk
          generalize openM (List.replicate (F.vars + 1) 0) c (0, 0) = r at *
          have HOP := hid hop; clear hop
          by_cases hr1 : r.2 = 1
          · have hd : (r.2 == 1) = true := by simp [hr1]
            have hp : pushM work r = work ++ [r.1] := by unfold pushM; rw [if_pos hr1]
            have HW2 := HWS'.out; rw [hp] at HW2
            have HW3 := hid HW2
            clear hp HW2 hr0 hr1
            go_wp2_with (first
              | (go_at_call 35; refine HOP.out.mono ?_; rintro e w1 ⟨rfl, m1, rfl⟩)
              | (at_builtin; refine wpList_app _ rfl (.tmp 75) (.tmp 77) 23 rfl (w.heap.size + 3) 3 (.int .i64 0) 8 Tryd.underlying23 info_int rfl _ work.length _ rfl ((HM.out.drewN m1).wk.alloc _) (some ⟨wi.heap.size, 0, none⟩) 1 1 [.int .i64 r.1] rfl rfl (RowR.one _ _ _) (by simp [Value.oneCell']) (by omega) (by unfold maxLen; omega) (by rw [World.size_alloc]; show _ ≤ wi.heap.size + 1; omega) ?_
                 intro v' w4 hown4 hg4 hat4
                 obtain ⟨p4, c4, rfl⟩ := own_slice hown4
                 have hgA := (World.grownBy_alloc (wi.drewN m1) (.cells #[.int .i64 r.1] 3) (Value.slice pw work.length cw).ownBlock).trans hg4
                 have hM4 := (HM.out.drewN m1).push [r.1] hgA hown4 (hat4.imp id (fun e => ⟨_, by simp only [World.size_alloc]; omega, e⟩))
                 have HM4 := hid hM4; clear hM4 hgA hg4 hown4 hat4))
            go_roundw
            case rel => exact ⟨i + 1, _, pl, by omega, by go_num, HM4.out, hpl, HPN'.out, HW3.out⟩
            case measure => simp [intOf]; omega
          · have hd : (r.2 == 1) = false := by simp [hr1]
            have hp : pushM work r = work := by unfold pushM; rw [if_neg hr1]
            have HW2 := HWS'.out; rw [hp] at HW2
            have HW3 := hid HW2
            clear hp HW2 hr0
            have HR1 := hid hr1; clear hr1
            go_wp2_with (go_at_call 35; refine HOP.out.mono ?_; rintro e w1 ⟨rfl, m1, rfl⟩)
            go_roundw
            case rel => exact ⟨i + 1, _, pl, by omega, by go_num, HM.out.drewN m1, hpl, HPN'.out, HW3.out⟩
            case measure => simp [intOf]; omega
    · obtain rfl : i = F.cls.length := by omega
      have hWI := hW.done HG.out hcl hv HSO.out hSl
      have hwl := hW.len
      have HWI := hid hWI; have HM := hid hM; have HP := hid hP
      have hra' := hra.keep (R' := (· < wo.heap.size)) (w' := wo) (fun j hj => ⟨by have := hM.size; omega, hM.below.block j hj⟩)
      clear hWI hM hP hW
      go_wp2_with (at_builtin; refine wpList_app _ rfl (.tmp 79) (.tmp 80) 23 rfl (w.heap.size + 3) 3 (.int .i64 0) 8 Tryd.underlying23 info_int rfl _ work.length _ rfl HM.out.wk pa sm.length ca _ rfl (by simp) hra' (by intro u hu; obtain ⟨x, _, rfl⟩ := List.mem_map.1 hu; rfl) (by omega) (by unfold maxLen; omega) (by omega) ?_
                   intro v' w4 hown4 hg4 hat4
                   obtain ⟨p4, c4, rfl⟩ := own_slice hown4
                   have hM4 := HM.out.push sm hg4 hown4 (hat4.imp id (fun e => ⟨_, Nat.le_refl _, e⟩))
                   have HM4 := hid hM4; clear hM4 hg4 hown4 hat4)
      have hcl4 : F.cls.length * 4 ≤ 4194304 := by omega
      go_loopw [8] (fun wk wr => ∃ (k work : List Int), DecM w F.vars (.slice pc F.cls.length cc) k pl wk work wr ∧ WkI n σ F sm k work) (fun wk wr => lenV wk + zerosW wr (w.heap.size + 1) * 4194305)
      case atStart => exact ⟨_, _, HM4.out, HWI.out⟩
      case round =>
        obtain ⟨k, work0, hM, hW⟩ := hrel
        obtain ⟨wq, rfl⟩ : ∃ wq : World, wq = wr := ⟨_, rfl⟩
        have hszq := hM.size
        have hzero := hM.zeros
        rcases List.eq_nil_or_concat work0 with rfl | ⟨work, x, rfl⟩
        · obtain ⟨p0, c0, rfl⟩ := own_slice hM.wk
          have hWd := hW.done HG.out HSI.out
          have HM := hid hM; have HW := hid hW; have HWD := hid hWd
          clear hM hW hWd hzero
          go_wp2
          go_ret2
          refine ⟨.slice (some ⟨w.heap.size + 1, 0, none⟩) (F.vars + 1) (F.vars + 1), k, rfl, ⟨_, F.vars + 1, by rw [List.length_map, HW.out.klen], by rw [List.length_map, HW.out.klen]; exact Nat.le_refl _, by unfold maxLen; omega, by rw [List.length_map, HW.out.klen]; omega, ?_⟩, HW.out.klen, HW.out.k0, HWD.out, HM.out.below⟩
          exact .inr ⟨_, 0, rfl, ⟨by omega, by omega⟩, fun j hj => by rw [Nat.zero_add, cell_of_cells HM.out.bk]; simp at hj; simp [hj]⟩
        · rw [List.concat_eq_append] at *
          obtain ⟨g, c, rfl, hcx, hcap⟩ := hM.last
          have hN1 : 1 ≤ work.length + 1 := by omega
          have hN2 : work.length = work.length + 1 - 1 := by omega
          rw [hN2] at hcx
          have hM1 := hM.pop
          rw [hN2] at hM1
          have HN2 := hid hN2; clear hN2
          have HM1 := hid hM1; clear hM1
          have HM := hid hM
          have hkr := hM.krow
          clear hM
          have hNb : work.length + 1 ≤ 4398052802560 := by have := hW.bnd; rw [List.length_append] at this; simp at this; omega
          generalize work.length + 1 = N at *
          have hklen := hW.klen
          have hox := hW.ok x (by simp)
          have hsx := okLit_spec.1 hox.1
          have hbx : Bd x := Bd.lit hv hox.1
          have his := is_any (some ⟨w.heap.size + 1, 0, none⟩) (F.vars + 1) k x _ wq hbx (by omega) hkr
          rw [hklen] at his
          by_cases hkn : (isM k x).1 = true
          · obtain ⟨h1, h2⟩ := hW.seen hkn
            rw [hkn, h1] at his
            have HIS := hid his; have HW2 := hid h2
            clear his hW h1 h2 hkn hbx hox hkr
            go_wp2_with (go_at_call 33; refine HIS.out.mono ?_; rintro e w1 ⟨rfl, m1, rfl⟩)
            go_roundw
            case rel => exact ⟨k, work, HM1.out.drewN m1, HW2.out⟩
            case measure => simp only [lenV]; rw [hzero, (HM1.out.drewN m1).zeros]; omega
          · have hkn' : (isM k x).1 = false := by simpa using hkn
            have hvf : (isM k x).2 = false := by
              cases h : (isM k x).2 with
              | false => rfl
              | true => rw [isM_snd h] at hkn'; cases hkn'
            rw [hkn', hvf] at his
            obtain ⟨a, ha⟩ : ∃ a : Nat, placeM (-x) = (a : Int) := ⟨(placeM (-x)).toNat, by unfold placeM; split <;> omega⟩
            have hap : a < pl.length := by have : (a : Int) < 2 * F.vars + 2 := by { rw [← ha]; unfold placeM; split <;> omega }; omega
            have hmem : ∀ i (hi : i < F.cls.length), -x ∈ F.cls[i] → (i : Int) ∈ pl[a] := fun i hi hm => by
              have := HP.out.old i hi hi (-x) hm
              rw [show (placeM (-x)).toNat = a by omega, getD_lt _ _ _ hap] at this
              exact this
            have hpa := HP.out.all _ (List.getElem_mem hap)
            obtain ⟨hxl, hx0, hJ⟩ := hW.take hkn' hmem (by omega)
            obtain ⟨v, hxv⟩ : ∃ v : Nat, x.natAbs = v := ⟨_, rfl⟩
            rw [hxv] at hxl hJ
            obtain ⟨kc1, kc2⟩ := HM.out.kcell v hxl
            obtain ⟨pv, pv1, pv2, pv3, pv4⟩ := HM.out.pl.at a hap
            obtain ⟨p1, c1, rfl⟩ := own_slice pv3
            have pv1' : wq.cell? ⟨w.heap.size + 1 + 1, a, none⟩ = some (.slice p1 pl[a].length c1) := pv1
            have hpc : ∀ y, y = -x → ∀ w0, Calls Tryd.prog 34 #[.int .i64 y] w0 fun e w' => e = .returned (.int .i64 a) ∧ w0 = w' := fun y hy w0 => by
              have := place_any y w0 (by rw [hy]; exact hbx.neg)
              rw [hy, ha] at this; rw [hy]; exact this
            have hsc : ∀ y, y = x → ∀ w0, Calls Tryd.prog 36 #[.int .i64 y] w0 fun e w' => e = .returned (.int .i8 (signM x)) ∧ w0 = w' := fun y hy w0 => by
              rw [hy]; exact sign_any x w0
            have hM2 : ∀ m, DecM w F.vars (.slice pc F.cls.length cc) (k.set v (signM x)) pl (.slice (some ⟨g, 0, none⟩) (N - 1) c) work ((wq.drewN m).setCell ⟨w.heap.size + 1, v, none⟩ (.int .i8 (signM x))) := fun m => (HM1.out.drewN m).known v hxl (signM x)
            have hcnt : (k.set v (signM x)).count 0 + 1 = k.count 0 := by
              have hz : k[v] = 0 := by
                by_cases e : k[v] = 0
                · exact e
                · have := (isM_known (k := k) hx0).2 (by rw [hxv, getD_lt _ _ _ hxl]; exact e)
                  rw [hkn'] at this; cases this
              exact count_set_zero hxl hz (by unfold signM; split <;> decide)
            have hkl' : (k.set v (signM x)).length = F.vars + 1 := by rw [List.length_set]; exact hklen
            generalize hgl : pl[a] = l at *
            generalize hgk : k.set v (signM x) = k' at *
            have HL := hid hgl; clear hgl hgk
            have HIS := hid his; have HJ := hid hJ; have HPC := hid hpc; have HSC := hid hsc; have HM2 := hid hM2; have HPA := hid hpa; have HCN := hid hcnt
            have hlt : x < 0 ∨ 0 < x := by omega
            have hll : l.length ≤ 4194304 := by have := HPA.out.1; omega
            clear his hW hkn hkn' hvf hbx hox hkr hmem hpa hJ hpc hsc hM2 ha pv3 pv4 pv1 hcnt
            rcases hlt with hp | hp
            · have hm1 : -x = v := by omega
              go_wp2_with (first
                | (go_at_call 33; refine HIS.out.mono ?_; rintro e w1 ⟨rfl, m1, rfl⟩)
                | (go_at_call 36; refine (HSC.out _ (by omega) _).mono ?_; rintro e w1 ⟨rfl, rfl⟩)
                | (go_at_call 34; refine (HPC.out _ (by omega) _).mono ?_; rintro e w1 ⟨rfl, rfl⟩))
              go_loopw [8, 19] (fun wk jv wr => ∃ (j : Nat) (wk2 : List Int), j ≤ l.length ∧ wk2.length + 1 ≤ N + j ∧ jv = .int .i64 j ∧ DecM w F.vars (.slice pc F.cls.length cc) k' pl wk wk2 wr ∧ WkJ n σ F sm l j k' wk2 ∧ wr.cell? ⟨w.heap.size + 1 + 1, a, none⟩ = some (.slice p1 l.length c1)) (fun _ jv _ => l.length - (intOf jv).toNat)
              case atStart => exact ⟨0, work, Nat.zero_le _, by have := HN2.out; omega, rfl, HM2.out m1, HJ.out, (World.cell?_of_block (a := ⟨w.heap.size + 1 + 1, a, none⟩) (Below.heap_setCell _ _ _ _ (by show w.heap.size + 1 + 1 ≠ w.heap.size + 1; omega))).trans pv1'⟩
              case round =>
                obtain ⟨j, wk2, hj, hwkl, rfl, hM, hJ, hcv⟩ := hrel
                obtain ⟨wi, rfl⟩ : ∃ wi : World, wi = wr := ⟨_, rfl⟩
                obtain ⟨pw, cw, rfl⟩ := own_slice hM.wk
                have hszi := hM.size
                by_cases hjl : j < l.length
                · obtain ⟨vv, q1, q2, q3, q4⟩ := hM.pl.at a hap
                  have hvv : vv = .slice p1 l.length c1 := by
                    have : wi.cell? ⟨w.heap.size + 2, a, none⟩ = some (.slice p1 l.length c1) := hcv
                    rw [q1] at this; injection this
                  subst hvv
                  rw [HL.out] at q3
                  obtain ⟨pl1, cl1, el1, _, _, _, hrl⟩ := Sl.of_owns (R := (· < wi.heap.size)) q3 (by have := HPA.out.1; omega) (fun j hj => (q3.lt j hj).2)
                  have hpp : p1 = pl1 := by injection el1
                  subst hpp
                  obtain ⟨bl, ol, rfl, hbl, hcl5⟩ := hrl.atI j hjl
                  have hclj := hcl5 j hjl
                  obtain ⟨ie, hie⟩ : ∃ ie : Nat, l[j] = (ie : Int) := ⟨l[j].toNat, by have := (HPA.out.2 _ (List.getElem_mem hjl)).1; omega⟩
                  have hil : ie < F.cls.length := by have := (HPA.out.2 _ (List.getElem_mem hjl)).2; omega
                  have hvl := HVL.out
                  obtain ⟨b, off, rfl, hRb, hc⟩ := hrc.at ie (by omega)
                  have hci := (hM.below.cell (p := ⟨b, off + ie, none⟩) hRb).trans (hc ie (by omega))
                  obtain ⟨pk, ck, ek, _, _, hkm, hrk⟩ := (HVI.out ie hil (by omega)).op
                  rw [ek] at hci
                  rw [hie] at hclj
                  have hstep := hJ.step HG.out hjl ie hil hie
                  have hoc := HG.out.ok _ (List.getElem_mem hil)
                  have hrw := hrk.keep (R' := (· < wi.heap.size)) (w' := wi) (fun j hj => ⟨by omega, hM.below.block j hj⟩)
                  have hop : ∀ m, Calls Tryd.prog 35 #[.slice (some ⟨w.heap.size + 1, 0, none⟩) (F.vars + 1) (F.vars + 1), .slice pk F.cls[ie].length ck] (wi.drewN m) fun e w' =>
                      e = .returned (.tuple #[.int .i64 (openM k' F.cls[ie] (0, 0)).1, .int .i64 (openM k' F.cls[ie] (0, 0)).2]) ∧ ∃ m', w' = (wi.drewN m).drewN m' := fun m => by
                    have := open_any (some ⟨w.heap.size + 1, 0, none⟩) pk (F.vars + 1) ck k' F.cls[ie] _ _ (wi.drewN m) (fun x hx => Bd.lit hv (hoc x hx)) (by omega) (hM.drewN m).krow (by omega) hrw
                    rw [hkl'] at this
                    exact this
                  have HOP := hid hop; have HM := hid hM
                  obtain ⟨hr0, hJ2⟩ := hstep
                  have cb : wi.cell? ⟨w.heap.size, 1, none⟩ = some (.slice (some ⟨b, off, none⟩) F.cls.length cc) := by rw [cell_of_cells hM.b0]; rfl
                  have HJ2 := hid hJ2
                  have hwb := hJ2.bnd
                  have hwl2 := hJ.bnd
                  clear hop hM hJ hJ2 hoc hrw hrk hc ek hie hcl5 hrl q3 q4 q1 q2 el1 hwb
                  generalize openM k' F.cls[ie] (0, 0) = r at *
                  generalize F.cls[ie] = cl at *
                  have hd0 : (r.2 == 0) = false := by rw [beq_eq_false_iff_ne]; exact hr0
                  clear hr0
                  by_cases hr1 : r.2 = 1
                  · have hd : (r.2 == 1) = true := by simp [hr1]
                    have hp : pushM wk2 r = wk2 ++ [r.1] := by unfold pushM; rw [if_pos hr1]
                    have HJ3 := HJ2.out; rw [hp] at HJ3
                    have HJ4 := hid HJ3
                    clear hp HJ3 hr1
                    go_wp2_with fail
                    go_quiet ((go_at_call 35; exact Calls.quiet_of (HOP.out _)))
                    go_wp2_with (at_builtin; refine wpList_app _ rfl (.tmp 142) (.tmp 144) 23 rfl (w.heap.size + 3) 3 (.int .i64 0) 8 Tryd.underlying23 info_int rfl _ wk2.length _ rfl ((HM.out.drewN nq).wk.alloc _) (some ⟨wi.heap.size, 0, none⟩) 1 1 [.int .i64 r.1] rfl rfl (RowR.one _ _ _) (by simp [Value.oneCell']) (by omega) (by unfold maxLen; omega) (by rw [World.size_alloc]; show _ ≤ wi.heap.size + 1; omega) ?_
                                 intro v' w4 hown4 hg4 hat4
                                 obtain ⟨p4, c4, rfl⟩ := own_slice hown4
                                 have hgA := (World.grownBy_alloc (wi.drewN nq) (.cells #[.int .i64 r.1] 3) (Value.slice pw wk2.length cw).ownBlock).trans hg4
                                 have hcv4 : w4.cell? ⟨w.heap.size + 1 + 1, a, none⟩ = some (.slice (some ⟨bl, ol, none⟩) l.length c1) := hgA.cell hcv (fun e => by have h9 : w.heap.size + 3 ≤ w.heap.size + 1 + 1 := (HM.out.wk.lt _ e.symm).1; omega)
                                 have hM4 := (HM.out.drewN nq).push [r.1] hgA hown4 (hat4.imp id (fun e => ⟨_, by simp only [World.size_alloc]; omega, e⟩))
                                 have HM4 := hid hM4; clear hM4 hgA hg4 hown4 hat4)
                    go_roundw
                    case rel => exact ⟨j + 1, _, by omega, by simp only [List.length_append, List.length_cons, List.length_nil]; omega, by go_num, HM4.out, HJ4.out, hcv4⟩
                    case measure => simp [intOf]; omega
                  · have hd : (r.2 == 1) = false := by simp [hr1]
                    have hp : pushM wk2 r = wk2 := by unfold pushM; rw [if_neg hr1]
                    have HJ3 := HJ2.out; rw [hp] at HJ3
                    have HJ4 := hid HJ3
                    clear hp HJ3
                    have HR1 := hid hr1; clear hr1
                    go_wp2_with fail
                    go_quiet ((go_at_call 35; exact Calls.quiet_of (HOP.out _)))
                    go_wp2
                    go_roundw
                    case rel => exact ⟨j + 1, _, by omega, by omega, by go_num, HM.out.drewN nq, HJ4.out, hcv⟩
                    case measure => simp [intOf]; omega
                · obtain rfl : j = l.length := by omega
                  have hJd := hJ.done
                  have hz2 := hM.zeros
                  have HM := hid hM; have HJD := hid hJd; have HZ2 := hid hz2
                  clear hM hJ hJd hz2
                  go_wp2
                  go_roundw
                  case rel => exact ⟨k', wk2, HM.out, HJD.out⟩
                  case measure => simp only [lenV]; rw [hzero, HZ2.out]; have := HCN.out; have := HPA.out.1; omega
            · obtain rfl : x = (v : Int) := by omega
              go_wp2_with (first
                | (go_at_call 33; refine HIS.out.mono ?_; rintro e w1 ⟨rfl, m1, rfl⟩)
                | (go_at_call 36; refine (HSC.out _ (by omega) _).mono ?_; rintro e w1 ⟨rfl, rfl⟩)
                | (go_at_call 34; refine (HPC.out _ (by omega) _).mono ?_; rintro e w1 ⟨rfl, rfl⟩))
              go_loopw [8, 19] (fun wk jv wr => ∃ (j : Nat) (wk2 : List Int), j ≤ l.length ∧ wk2.length + 1 ≤ N + j ∧ jv = .int .i64 j ∧ DecM w F.vars (.slice pc F.cls.length cc) k' pl wk wk2 wr ∧ WkJ n σ F sm l j k' wk2 ∧ wr.cell? ⟨w.heap.size + 1 + 1, a, none⟩ = some (.slice p1 l.length c1)) (fun _ jv _ => l.length - (intOf jv).toNat)
              case atStart => exact ⟨0, work, Nat.zero_le _, by have := HN2.out; omega, rfl, HM2.out m1, HJ.out, (World.cell?_of_block (a := ⟨w.heap.size + 1 + 1, a, none⟩) (Below.heap_setCell _ _ _ _ (by show w.heap.size + 1 + 1 ≠ w.heap.size + 1; omega))).trans pv1'⟩
              case round =>
                obtain ⟨j, wk2, hj, hwkl, rfl, hM, hJ, hcv⟩ := hrel
                obtain ⟨wi, rfl⟩ : ∃ wi : World, wi = wr := ⟨_, rfl⟩
                obtain ⟨pw, cw, rfl⟩ := own_slice hM.wk
                have hszi := hM.size
                by_cases hjl : j < l.length
                · obtain ⟨vv, q1, q2, q3, q4⟩ := hM.pl.at a hap
                  have hvv : vv = .slice p1 l.length c1 := by
                    have : wi.cell? ⟨w.heap.size + 2, a, none⟩ = some (.slice p1 l.length c1) := hcv
                    rw [q1] at this; injection this
                  subst hvv
                  rw [HL.out] at q3
                  obtain ⟨pl1, cl1, el1, _, _, _, hrl⟩ := Sl.of_owns (R := (· < wi.heap.size)) q3 (by have := HPA.out.1; omega) (fun j hj => (q3.lt j hj).2)
                  have hpp : p1 = pl1 := by injection el1
                  subst hpp
                  obtain ⟨bl, ol, rfl, hbl, hcl5⟩ := hrl.atI j hjl
                  have hclj := hcl5 j hjl
                  obtain ⟨ie, hie⟩ : ∃ ie : Nat, l[j] = (ie : Int) := ⟨l[j].toNat, by have := (HPA.out.2 _ (List.getElem_mem hjl)).1; omega⟩
                  have hil : ie < F.cls.length := by have := (HPA.out.2 _ (List.getElem_mem hjl)).2; omega
                  have hvl := HVL.out
                  obtain ⟨b, off, rfl, hRb, hc⟩ := hrc.at ie (by omega)
                  have hci := (hM.below.cell (p := ⟨b, off + ie, none⟩) hRb).trans (hc ie (by omega))
                  obtain ⟨pk, ck, ek, _, _, hkm, hrk⟩ := (HVI.out ie hil (by omega)).op
                  rw [ek] at hci
                  rw [hie] at hclj
                  have hstep := hJ.step HG.out hjl ie hil hie
                  have hoc := HG.out.ok _ (List.getElem_mem hil)
                  have hrw := hrk.keep (R' := (· < wi.heap.size)) (w' := wi) (fun j hj => ⟨by omega, hM.below.block j hj⟩)
                  have hop : ∀ m, Calls Tryd.prog 35 #[.slice (some ⟨w.heap.size + 1, 0, none⟩) (F.vars + 1) (F.vars + 1), .slice pk F.cls[ie].length ck] (wi.drewN m) fun e w' =>
                      e = .returned (.tuple #[.int .i64 (openM k' F.cls[ie] (0, 0)).1, .int .i64 (openM k' F.cls[ie] (0, 0)).2]) ∧ ∃ m', w' = (wi.drewN m).drewN m' := fun m => by
                    have := open_any (some ⟨w.heap.size + 1, 0, none⟩) pk (F.vars + 1) ck k' F.cls[ie] _ _ (wi.drewN m) (fun x hx => Bd.lit hv (hoc x hx)) (by omega) (hM.drewN m).krow (by omega) hrw
                    rw [hkl'] at this
                    exact this
                  have HOP := hid hop; have HM := hid hM
                  obtain ⟨hr0, hJ2⟩ := hstep
                  have cb : wi.cell? ⟨w.heap.size, 1, none⟩ = some (.slice (some ⟨b, off, none⟩) F.cls.length cc) := by rw [cell_of_cells hM.b0]; rfl
                  have HJ2 := hid hJ2
                  have hwb := hJ2.bnd
                  have hwl2 := hJ.bnd
                  clear hop hM hJ hJ2 hoc hrw hrk hc ek hie hcl5 hrl q3 q4 q1 q2 el1 hwb
                  generalize openM k' F.cls[ie] (0, 0) = r at *
                  generalize F.cls[ie] = cl at *
                  have hd0 : (r.2 == 0) = false := by rw [beq_eq_false_iff_ne]; exact hr0
                  clear hr0
                  by_cases hr1 : r.2 = 1
                  · have hd : (r.2 == 1) = true := by simp [hr1]
                    have hp : pushM wk2 r = wk2 ++ [r.1] := by unfold pushM; rw [if_pos hr1]
                    have HJ3 := HJ2.out; rw [hp] at HJ3
                    have HJ4 := hid HJ3
                    clear hp HJ3 hr1
                    go_wp2_with fail
                    go_quiet ((go_at_call 35; exact Calls.quiet_of (HOP.out _)))
                    go_wp2_with (at_builtin; refine wpList_app _ rfl (.tmp 142) (.tmp 144) 23 rfl (w.heap.size + 3) 3 (.int .i64 0) 8 Tryd.underlying23 info_int rfl _ wk2.length _ rfl ((HM.out.drewN nq).wk.alloc _) (some ⟨wi.heap.size, 0, none⟩) 1 1 [.int .i64 r.1] rfl rfl (RowR.one _ _ _) (by simp [Value.oneCell']) (by omega) (by unfold maxLen; omega) (by rw [World.size_alloc]; show _ ≤ wi.heap.size + 1; omega) ?_
                                 intro v' w4 hown4 hg4 hat4
                                 obtain ⟨p4, c4, rfl⟩ := own_slice hown4
                                 have hgA := (World.grownBy_alloc (wi.drewN nq) (.cells #[.int .i64 r.1] 3) (Value.slice pw wk2.length cw).ownBlock).trans hg4
                                 have hcv4 : w4.cell? ⟨w.heap.size + 1 + 1, a, none⟩ = some (.slice (some ⟨bl, ol, none⟩) l.length c1) := hgA.cell hcv (fun e => by have h9 : w.heap.size + 3 ≤ w.heap.size + 1 + 1 := (HM.out.wk.lt _ e.symm).1; omega)
                                 have hM4 := (HM.out.drewN nq).push [r.1] hgA hown4 (hat4.imp id (fun e => ⟨_, by simp only [World.size_alloc]; omega, e⟩))
                                 have HM4 := hid hM4; clear hM4 hgA hg4 hown4 hat4)
                    go_roundw
                    case rel => exact ⟨j + 1, _, by omega, by simp only [List.length_append, List.length_cons, List.length_nil]; omega, by go_num, HM4.out, HJ4.out, hcv4⟩
                    case measure => simp [intOf]; omega
                  · have hd : (r.2 == 1) = false := by simp [hr1]
                    have hp : pushM wk2 r = wk2 := by unfold pushM; rw [if_neg hr1]
                    have HJ3 := HJ2.out; rw [hp] at HJ3
                    have HJ4 := hid HJ3
                    clear hp HJ3
                    have HR1 := hid hr1; clear hr1
                    go_wp2_with fail
                    go_quiet ((go_at_call 35; exact Calls.quiet_of (HOP.out _)))
                    go_wp2
                    go_roundw
                    case rel => exact ⟨j + 1, _, by omega, by omega, by go_num, HM.out.drewN nq, HJ4.out, hcv⟩
                    case measure => simp [intOf]; omega
                · obtain rfl : j = l.length := by omega
                  have hJd := hJ.done
                  have hz2 := hM.zeros
                  have HM := hid hM; have HJD := hid hJd; have HZ2 := hid hz2
                  clear hM hJ hJd hz2
                  go_wp2
                  go_roundw
                  case rel => exact ⟨k', wk2, HM.out, HJD.out⟩
                  case measure => simp only [lenV]; rw [hzero, HZ2.out]; have := HCN.out; have := HPA.out.1; omega

end Go.Proofs.YtjcnhnifageikaaDoor
