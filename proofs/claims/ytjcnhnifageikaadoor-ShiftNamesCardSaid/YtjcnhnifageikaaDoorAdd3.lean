/-
  The walk of package adder's check.
-/
import Derived.Test.YtjcnhnifageikaaDoorAdd2
namespace Go.Proofs.YtjcnhnifageikaaDoor
set_option linter.unusedSimpArgs false
set_option linter.unusedVariables false
open Go.RowKit

def goodLen (n0 : Nat) (l : List Int) : Bool := decide (1 ≤ l.length) && (decide (l.length ≤ 64) && l.length == n0)
/-- The error of words of literals, and of single ones. -/
def checkM (F : Form) (single : List Int) (words : List (List Int)) : Int :=
  if words.all (goodLen (words.headD []).length) then (if (single :: words).all (hasAll F.vars) then 0 else 3) else 2

theorem all_no {α : Type} (f : α → Bool) (zs : List α) (k : Nat) (hk : k < zs.length) (h : f zs[k] = false) : zs.all f = false := by
  rw [List.all_eq_false]
  exact ⟨zs[k], List.getElem_mem hk, by simp [h]⟩
theorem all_step {α : Type} (f : α → Bool) (zs : List α) (k : Nat) (hk : k < zs.length) (h0 : (zs.take k).all f = true) (h : f zs[k] = true) : (zs.take (k+1)).all f = true := by
  rw [List.take_succ_eq_append_getElem hk, List.all_append, h0]; simp [h]

theorem andM_same (F : Form) (x : Int) : andM F x x = if okLit F.vars x then (x, 0, F) else (0, 3, F) := by
  unfold andM
  rw [hasAll_two, Bool.and_self]
  cases okLit F.vars x <;> simp

theorem slice_one (xs : List Value) (h : ∀ u ∈ xs, ∃ p n c, u = .slice p n c) : ∀ u ∈ xs, u.oneCell' = true := by
  intro u hu; obtain ⟨p, n, c, rfl⟩ := h u hu; rfl

set_option maxRecDepth 100000 in
set_option maxHeartbeats 1600000 in
theorem check_any (bb : Nat) (F : Form) (single : List Int) (words : List (List Int)) (vws : List Value) (ps pw : Option Addr) (ns cs nw cw : Nat) (w : World) (hB : IsB w bb F)
    (hns : ns = single.length) (hs3 : single.length ≤ cs) (hs4 : cs ≤ maxLen) (hs2 : single.length ≤ 140737488355328) (hrs : RowR (Away bb w) w ps (single.map (Value.int .i64)))
    (hnw : nw = words.length) (hw4 : words.length ≤ 4) (hrw : RowR (Away bb w) w pw vws) (hvl : vws.length = words.length)
    (hvi : ∀ i (h : i < words.length) (h' : i < vws.length), Ints (Away bb w) w vws[i] words[i])
    (hlit : ∀ l ∈ single :: words, ∀ x ∈ l, -9223372036854775807 ≤ x ∧ x ≤ 9223372036854775807) :
    Calls Tryd.prog 37 #[.pointer (some ⟨bb, 0, none⟩), .slice ps ns cs, .slice pw nw cw] w fun e w' =>
      e = .returned (.int .i64 (checkM F single words)) ∧ IsB w' bb F ∧ FrB bb w w' := by
  subst hns hnw
  have HL := hid hlit; clear hlit
  have hone : ∀ u ∈ vws, ∃ p n c, u = .slice p n c := by
    intro u hu
    obtain ⟨i, hi, rfl⟩ := List.mem_iff_getElem.1 hu
    obtain ⟨p, c, e, _⟩ := (hvi i (by omega) hi).op
    exact ⟨p, _, c, e⟩
  have hone' := slice_one vws hone
  clear hone
  go_enter Tryd.func37, Tryd.ntmps37
  go_wp2_with fail
  go_loop [19] (fun i => ∃ i' : Nat, i' ≤ words.length ∧ i = .int .i64 i' ∧ (words.take i').all (goodLen (words.headD []).length) = true) (fun i => words.length - (intOf i).toNat)
  case atStart => exact ⟨0, Nat.zero_le _, rfl, by simp⟩
  case round =>
    obtain ⟨i, hi, rfl, hgood⟩ := hrel
    by_cases hlt : i < words.length
    · have hno := all_no (goodLen (words.headD []).length) words i hlt
      have hstep := all_step (goodLen (words.headD []).length) words i hlt hgood
      have hhd : (words.headD []).length = (words[0]'(by omega)).length := by
        cases words with
        | nil => simp at hlt
        | cons a l => rfl
      rw [hhd] at hno hstep
      have hbad : words.all (goodLen (words[0]'(by omega)).length) = false → checkM F single words = 2 := by
        intro h; unfold checkM; rw [hhd, h]; rfl
      have HH := hid hhd; clear hhd
      obtain ⟨b, off, rfl, hRb, hcb⟩ := hrw.at i (by omega)
      have hci := hcb i (by omega)
      have hc0 := hcb 0 (by omega)
      rw [Nat.add_zero] at hc0
      obtain ⟨pi, ci, ei, _, _, hil, _⟩ := (hvi i hlt (by omega)).op
      obtain ⟨p0, c0, e0, _, _, h0l, _⟩ := (hvi 0 (by omega) (by omega)).op
      rw [ei] at hci
      rw [e0] at hc0
      have hgl : goodLen (words[0]'(by omega)).length words[i] = (decide (1 ≤ words[i].length) && (decide (words[i].length ≤ 64) && words[i].length == (words[0]'(by omega)).length)) := rfl
      rw [hgl] at hno hstep
      clear hgl ei e0 hcb hvi hgood hrs hrw
      generalize words[i].length = li at *
      generalize (words[0]'(by omega)).length = l0 at *
      have HN := hid hno; have HS := hid hstep; have HBAD := hid hbad
      clear hno hstep hbad
      by_cases d1 : li < 1
      · go_wp2
        go_ret
        exact ⟨ret_i (HBAD.out (HN.out (by simp; omega))).symm, hB, Fr.refl _ _⟩
      · by_cases d2 : 64 < li
        · go_wp2
          go_ret
          exact ⟨ret_i (HBAD.out (HN.out (by simp; omega))).symm, hB, Fr.refl _ _⟩
        · by_cases d3 : li = l0
          · have dd : ((li : Int) != (l0 : Int)) = false := by simp [d3]
            have D := hid d3; clear d3
            go_wp2
            go_round
            case rel => exact ⟨i + 1, by omega, by go_num, by rw [HH.out]; exact HS.out (by simp [D.out] at *; omega)⟩
            case measure => simp [intOf]; omega
          · have dd : ((li : Int) != (l0 : Int)) = true := by simp; omega
            have D := hid d3; clear d3
            go_wp2
            go_ret
            exact ⟨ret_i (HBAD.out (HN.out (by have := D.out; simp; omega))).symm, hB, Fr.refl _ _⟩
    · obtain rfl : i = words.length := by omega
      rw [List.take_length] at hgood
      have hck : checkM F single words = if (single :: words).all (hasAll F.vars) then 0 else 3 := by unfold checkM; rw [if_pos hgood]
      have HCK := hid hck; clear hck hgood
      have hown0 := World.ownsRow_lit (base := w.heap.size) (e := 23) (size := 1) w #[.slice ps single.length cs] 1 (Nat.le_refl _) (by unfold maxLen; omega) rfl
      have hB0 := hB.al (.cells #[.slice ps single.length cs] 23)
      have hfr0 := FrB.al hB (Fr.refl _ _) hB (.cells #[.slice ps single.length cs] 23)
      have hrw0 := hrw.fr hfr0
      obtain ⟨N, hN⟩ : ∃ N, 1 + words.length = N := ⟨_, rfl⟩
      have hNall : N = (single :: words).length := by simp; omega
      have HNA := hid hNall
      have hall : ∀ i (h : i < (single :: words).length) (h' : i < (.slice ps single.length cs :: vws).length), Ints (Away bb w) w (.slice ps single.length cs :: vws)[i] (single :: words)[i] := by
        intro i h h'
        cases i with
        | zero => exact ⟨ps, cs, by simp, by simpa using hs3, hs4, by simpa using hs2, hrs⟩
        | succ i => exact hvi i (by simpa using h) (by simpa using h')
      have HALL := hid hall
      have hvl' : (Value.slice ps single.length cs :: vws).length = (single :: words).length := by simp [hvl]
      have hN5 : (single :: words).length ≤ 5 := by simp; omega
      have HVL := hid hvl'; have HN := hid hN
      clear hall hvi hvl' hN hrw hrs hNall
      go_wp2_with (at_builtin; refine wpList_app _ rfl (.tmp 42) (.tmp 43) 50 rfl w.heap.size 23 (.slice none 0 0) 24 Tryd.underlying50 info_ints rfl _ 1 _ rfl hown0 pw words.length cw vws rfl hvl.symm hrw0 hone' (by omega) (by unfold maxLen; omega) (by simp) ?_; intro v44 w1 hown1 hg1 hat1; rw [HN.out] at hown1; obtain ⟨p44, c44, rfl⟩ := own_slice hown1)
      have hb1 : Below w.heap.size w w1 := (((Below.refl _ w).alloc (Nat.le_refl _) _).grown hg1 (by simp) (fun j hj => by cases hj; exact Nat.le_refl _))
      have hNall := HNA.out
      subst hNall
      have hB1 := hB.below hb1
      have hfr1 : FrB bb w w1 := FrB.of_below hB hb1
      have hsl : Sl (Away bb w1) w1 (.slice p44 (single :: words).length c44) (Value.slice ps single.length cs :: vws) :=
        Sl.of_owns hown1 (by omega) (fun j hj => hB.away_new hb1 (hown1.lt j hj).1 (hown1.lt j hj).2)
      obtain ⟨pz, cz, ez, _, _, _, hr44⟩ := hsl
      have hpz : p44 = pz := by injection ez
      subst hpz
      have HLL : ∀ i (h : i < (single :: words).length) (h' : i < (Value.slice ps single.length cs :: vws).length), Ints (Away bb w1) w1 (Value.slice ps single.length cs :: vws)[i] (single :: words)[i] :=
        fun i h h' => (HALL.out i h h').fr hfr1
      have HI := hid HLL
      have HFR1 := hid hfr1
      clear HLL ez HALL hown1 hg1 hat1 hb1 hB0 hfr0 hrw0 hown0 hfr1
      generalize hA : (Value.slice ps single.length cs :: vws) = avs at *
      generalize hL : single :: words = all at *
      have HA := hid hA; have HLE := hid hL; clear hA hL
      go_loopw [46] (fun i wr => ∃ i' : Nat, i' ≤ all.length ∧ i = .int .i64 i' ∧ IsB wr bb F ∧ FrB bb w1 wr ∧ (all.take i').all (hasAll F.vars) = true) (fun i _ => all.length - (intOf i).toNat)
      case atStart => exact ⟨0, Nat.zero_le _, rfl, hB1, Fr.refl _ _, by simp⟩
      case round =>
        obtain ⟨i, hi, rfl, hBr, hfr, hgood⟩ := hrel
        obtain ⟨wo, rfl⟩ : ∃ wo : World, wo = wr := ⟨_, rfl⟩
        have hvlen := HVL.out
        by_cases hlt : i < all.length
        · obtain ⟨b, off, rfl, hRb, hcb⟩ := (hr44.fr hfr).at i (by omega)
          have hci := hcb i (by omega)
          obtain ⟨pi, ci, ei, _, _, hil, hri⟩ := ((HI.out i hlt (by omega)).fr hfr).op
          rw [ei] at hci
          have hno := all_no (hasAll F.vars) all i hlt
          have hstep := all_step (hasAll F.vars) all i hlt hgood
          have hlx := HL.out _ (List.getElem_mem hlt)
          generalize all[i] = l at *
          have HNO := hid hno; have HST := hid hstep; have HLX := hid hlx
          clear hno hstep hlx hcb hgood ei
          go_wp2_with fail
          go_loopw [52] (fun j wi => ∃ j' : Nat, j' ≤ l.length ∧ j = .int .i64 j' ∧ IsB wi bb F ∧ FrB bb wo wi ∧ hasAll F.vars (l.take j') = true) (fun j _ => l.length - (intOf j).toNat)
          case atStart => exact ⟨0, Nat.zero_le _, rfl, hBr, Fr.refl _ _, by simp [hasAll]⟩
          case round =>
            obtain ⟨j, hj, rfl, hBi, hfi, hok⟩ := hrel
            obtain ⟨wi, rfl⟩ : ∃ wi : World, wi = wr := ⟨_, rfl⟩
            by_cases hjl : j < l.length
            · obtain ⟨bj, offj, rfl, hRj, hcj⟩ := (hri.fr hfi).atI j hjl
              have hcx := hcj j hjl
              have hx := HLX.out _ (List.getElem_mem hjl)
              have hstep := hasAll_step F.vars l j hjl hok
              have hno := hasAll_no F.vars l j hjl
              generalize l[j] = x at *
              have hand := and_any bb F x x wi hBi hx hx
              rw [andM_same] at hand
              have HND := hid hand; have HNO2 := hid hno; have HST2 := hid hstep
              clear hand hno hstep hcj hok
              by_cases hokx : okLit F.vars x = true
              · have HND2 : Hid (Calls Tryd.prog 29 #[.pointer (some ⟨bb, 0, none⟩), .int .i64 x, .int .i64 x] wi (GatePost bb wi (x, 0, F))) := by
                  have h := HND.out; rw [if_pos hokx] at h; exact hid h
                go_wp2_with (go_at_call 29; refine HND2.out.mono ?_; rintro e w4 ⟨rfl, hB4, hfr4⟩)
                go_roundw
                case rel => exact ⟨j + 1, by omega, by go_num, hB4, hfi.trans hfr4, HST2.out hokx⟩
                case measure => simp [intOf]; omega
              · have HND2 : Hid (Calls Tryd.prog 29 #[.pointer (some ⟨bb, 0, none⟩), .int .i64 x, .int .i64 x] wi (GatePost bb wi (0, 3, F))) := by
                  have h := HND.out; rw [if_neg hokx] at h; exact hid h
                have hnx : okLit F.vars x = false := by simpa using hokx
                have hfalse : checkM F single words = 3 := by
                  rw [HCK.out]; have h3 := HNO.out (HNO2.out hnx); rw [h3]; rfl
                have HFA := hid hfalse; clear hfalse hnx hokx
                go_wp2_with (go_at_call 29; refine HND2.out.mono ?_; rintro e w4 ⟨rfl, hB4, hfr4⟩)
                go_ret
                exact ⟨ret_i HFA.out.symm, hB4, ((HFR1.out.trans hfr).trans hfi).trans hfr4⟩
            · obtain rfl : j = l.length := by omega
              rw [List.take_length] at hok
              have HK := hid hok; clear hok
              go_wp2
              go_roundw
              case rel => exact ⟨i + 1, by omega, by go_num, hBi, hfr.trans hfi, HST.out HK.out⟩
              case measure => simp [intOf]; omega
        · obtain rfl : i = all.length := by omega
          rw [List.take_length] at hgood
          have hz : checkM F single words = 0 := by rw [HCK.out, hgood]; rfl
          have HZ := hid hz; clear hz hgood
          go_wp2
          go_ret
          exact ⟨ret_i HZ.out.symm, hBr, HFR1.out.trans hfr⟩

end Go.Proofs.YtjcnhnifageikaaDoor
