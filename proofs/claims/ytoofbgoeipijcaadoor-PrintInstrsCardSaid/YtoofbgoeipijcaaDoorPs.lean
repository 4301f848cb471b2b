/-
  The reference: numbers, operands, words (weepholeref24).
-/
import Derived.Test.YtoofbgoeipijcaaDoorPrX
import Derived.Test.YtoofbgoeipijcaaDoorB24
import Derived.Deep.DeepCutAuto
namespace Go.Proofs.YtoofbgoeipijcaaDoor
set_option linter.unusedSimpArgs false
set_option linter.unusedVariables false
open Go.RowKit Go.Shelf
attribute [local go_sem] Oper.semAt_some

theorem conv8d (k : Nat) (h : k < 10) (w : World) : (convert 68 9 (.slice (some ⟨w.heap.size, 0, none⟩) 1 1)).run Tryd.prog (w.alloc (.cells #[.int .u8 (48 + (k : Int))] 5)) = .ok (.string ⟨#[UInt8.ofNat (48 + k)]⟩) (w.alloc (.cells #[.int .u8 (48 + (k : Int))] 5)) := by
  have e : ((UInt8.ofNat (48 + k)).toNat : Int) = 48 + (k : Int) := by rw [UInt8.toNat_ofNat']; omega
  rw [← e]
  exact conv1 _ w
set_option maxRecDepth 100000 in
set_option maxHeartbeats 400000 in
/-- A number in decimal digits. -/
theorem rnum_any (u : Nat) (hu : u < 18446744073709551616) (w : World) : Calls Tryd.prog 52 #[.int .u64 (u : Int)] w fun e w' => e = .returned (.string ⟨(Lib.decDigits u).toArray⟩) ∧ Below w.heap.size w w' := by
  induction u using Nat.strongRecOn generalizing w with
  | _ u ih =>
    have HU := hid hu
    obtain ⟨r, hr⟩ : ∃ r, u % 10 = r := ⟨_, rfl⟩
    have hr10 : r < 10 := by omega
    have hrz : (u : Int) % 10 = (r : Int) := by omega
    have hrt : (u : Int).tmod 10 = (r : Int) := by rw [Int.tmod_eq_emod_of_nonneg (by omega)]; exact hrz
    obtain ⟨C, hC⟩ : ∃ C, UInt8.ofNat (48 + r) = C := ⟨_, rfl⟩
    have hcv := fun w => conv8d r hr10 w
    rw [hC] at hcv
    by_cases h : u < 10
    · have HD := hid (show Lib.decDigits u = [C] from by rw [← hC, Lib.decDigits_one h, ← hr]; congr; omega)
      have h' : decide ((u : Int) < 10) = true := by simp; omega
      clear ih hu h hC
      go_enter Tryd.func52, Tryd.ntmps52
      go_wp2_with fail
      go_ret
      exact ⟨by rw [HD.out]; rfl, (Below.refl _ _).alloc (Nat.le_refl _) _⟩
    · obtain ⟨q, hq⟩ : ∃ q, u / 10 = q := ⟨_, rfl⟩
      have HD := hid (show Lib.decDigits u = Lib.decDigits q ++ [C] from by rw [Lib.decDigits, dif_neg h, hr, hq, hC])
      have h' : decide ((u : Int) < 10) = false := by simp; omega
      have HIH := hid (ih q (by omega) (by omega))
      have hqz : (u : Int) / 10 = (q : Int) := by omega
      have hqt : (u : Int).tdiv 10 = (q : Int) := by rw [Int.tdiv_eq_ediv_of_nonneg (by omega)]; exact hqz
      have hql : q < 18446744073709551616 := by omega
      obtain ⟨D, hDq⟩ : ∃ D, Lib.decDigits q = D := ⟨_, rfl⟩
      rw [hDq] at HD HIH
      have hk1 : ¬ 9223372036854775807 < D.length + 1 := by rw [← hDq, Lib.decDigits_length]; have := Lib.nDigits_le20 q hql; omega
      clear ih hu h hC hq hDq hr
      go_enter Tryd.func52, Tryd.ntmps52
      go_wp2_with (go_at_call 52; (with_reducible refine (HIH.out _).mono ?_); rintro e w1 ⟨rfl, hb1⟩; have HB1 := hid (((Below.refl w.heap.size w).alloc (Nat.le_refl _) _).trans (hb1.mono (by rw [World.size_alloc]; omega))); clear hb1)
      go_ret
      refine ⟨?_, HB1.out⟩
      rw [HD.out]
      show Ending.returned (.string (⟨D.toArray⟩ ++ ⟨#[C]⟩)) = _
      rw [ByteArray.mk_append_mk]

theorem jn_step (l : List Bs) (k : Nat) (hk : k < l.length) : jn (l.take (k + 1)) = if k = 0 then l[k] else jn (l.take k) ++ [32] ++ l[k] := by
  rcases l with _ | ⟨x, r⟩
  · simp at hk
  rcases k with _ | m
  · rw [if_pos rfl]; exact Lib.join_one x [32]
  · have hm : m < r.length := by simpa using hk
    rw [if_neg (by omega), List.take_succ_cons, List.take_succ_eq_append_getElem hm, List.take_succ_cons, jn_snoc]
    rfl
set_option maxRecDepth 100000 in
set_option maxHeartbeats 1000000 in
/-- Words with blanks between them. -/
theorem rjoin_any (l : List Bs) (v : Value) (R : Nat → Prop) (w : World) (h : SlG kStr R w v l) (hl : l.length ≤ 1000) (hs : ∀ s ∈ l, s.length ≤ 1000) :
    Calls Tryd.prog 23 #[v] w fun e w' => e = .returned (.string ⟨(jn l).toArray⟩) ∧ Below w.heap.size w w' := by
  obtain ⟨p, c, rfl⟩ := h.slc
  have HS := hid h; have HL := hid hl; have HSS := hid hs
  clear h hl hs
  go_enter Tryd.func23, Tryd.ntmps23
  go_wp2
  go_loopw [3, 4] (fun ov iv wr => ∃ k : Nat, k ≤ l.length ∧ iv = .int .i64 (k : Int) ∧ ov = .string ⟨(jn (l.take k)).toArray⟩ ∧ wr = w) (fun _ iv _ => l.length - (intOf iv).toNat)
  case atStart => exact ⟨0, Nat.zero_le _, rfl, rfl, rfl⟩
  case round =>
    obtain ⟨k, hk, rfl, rfl, rfl⟩ := hrel
    by_cases hlt : k < l.length
    · obtain ⟨b, off, rfl, hR, hcells⟩ := str_at HS.out (by omega : 0 < l.length)
      have hc := hcells k hlt
      have HST := hid (jn_step l k hlt)
      have hs1 : (l[k]).length ≤ 1000 := HSS.out _ (List.getElem_mem hlt)
      have hs2 : (jn (l.take k)).length ≤ 1001000 := Nat.le_trans (jn_len _ 1000 fun s hs => HSS.out s (List.mem_of_mem_take hs)) (by rw [List.length_take]; have := HL.out; have : min k l.length ≤ 1000 := by omega
                                                                                                                                      omega)
      have HLT := hid hlt
      obtain ⟨J, hJ⟩ : ∃ J, jn (l.take k) = J := ⟨_, rfl⟩
      rw [hJ] at HST hs2
      rw [hJ]
      have hJ0 : k = 0 → J = [] := fun h => by subst h; exact hJ.symm
      clear hcells hR hJ
      generalize l[k] = x at *
      have hk1 : ¬ 9223372036854775807 < J.length + 1 := by omega
      have hk2 : ¬ 9223372036854775807 < J.length + 1 + x.length := by omega
      have hk3 : ¬ 9223372036854775807 < J.length + x.length := by omega
      by_cases h0 : k = 0
      · have g0 : decide ((0 : Int) < (k : Int)) = false := by simp; omega
        have HJ0 := hid (show jn (l.take (k + 1)) = x from by rw [HST.out, if_pos h0])
        have g0n : ¬ (0 < k) := by omega
        obtain rfl := hJ0 h0
        clear hs1 hs2 h0
        go_wp2_with fail
        go_roundw
        case rel => exact ⟨k + 1, HLT.out, by rw [show ((k + 1 : Nat) : Int) = (k : Int) + 1 from by omega], by rw [HJ0.out, ByteArray.mk_append_mk]; simp, trivial⟩
        case measure => have := HLT.out; show l.length - ((k : Int) + 1).toNat < l.length - ((k : Int)).toNat; omega
      · have g0 : decide ((0 : Int) < (k : Int)) = true := by simp; omega
        have HJ0 := hid (show jn (l.take (k + 1)) = J ++ [32] ++ x from by rw [HST.out, if_neg h0])
        have g0n : 0 < k := by omega
        clear hs1 hs2 hJ0 h0
        go_wp2_with fail
        go_roundw
        case rel =>
          refine ⟨k + 1, HLT.out, by rw [wrap_next HLT.out HS.out.len], ?_, trivial⟩
          rw [HJ0.out, ByteArray.mk_append_mk, ByteArray.mk_append_mk]
        case measure => exact meas_next HLT.out HS.out.len
    · obtain rfl : k = l.length := by omega
      clear hlt
      go_wp2_with fail
      go_ret
      exact ⟨by rw [List.take_length]; rfl, Below.refl _ _⟩

set_option maxRecDepth 100000 in
set_option maxHeartbeats 2000000 in
/-- The words of operands. -/
theorem rargs_any (l : List Ag) (v : Value) (w : World) (h : SlG kAg (· < w.heap.size) w v l) (hl : l.length ≤ 100000) (hn : ∀ a ∈ l, a.num < 18446744073709551616) :
    Calls Tryd.prog 22 #[v] w fun e w' => ∃ v', e = .returned v' ∧ GA kStr w.heap.size 9 w' v' (l.map argT) ∧ Below w.heap.size w w' := by
  obtain ⟨p, c, rfl⟩ := h.slc
  have HS := hid h; have HL := hid hl; have HNU := hid hn
  clear h hl hn
  go_enter Tryd.func22, Tryd.ntmps22
  go_wp2
  go_loopw [3, 4] (fun ov iv wr => ∃ k : Nat, k ≤ l.length ∧ iv = .int .i64 (k : Int) ∧ GA kStr w.heap.size 9 wr ov ((l.take k).map argT) ∧ Below w.heap.size w wr) (fun _ iv _ => l.length - (intOf iv).toNat)
  case atStart => exact ⟨0, Nat.zero_le _, rfl, GA.nil _ _ _ _, Below.refl _ _⟩
  case round =>
    obtain ⟨k, hk, rfl, hga, hbr⟩ := hrel
    obtain ⟨T, hT⟩ : ∃ T, (l.take k).map argT = T := ⟨_, rfl⟩
    rw [hT] at hga
    have HTD := hid hT
    clear hT
    obtain ⟨po, co, rfl⟩ := hga.slc
    by_cases hlt : k < l.length
    · obtain ⟨b, off, rfl, hR, hcells⟩ := ag_at HS.out (by omega : 0 < l.length)
      obtain ⟨c0, c1⟩ := hcells k hlt
      have d0 := (hbr.cell (p := ⟨b, off + k * 2, none⟩) hR).trans c0
      have d1 := (hbr.cell (p := ⟨b, off + k * 2 + 1, none⟩) hR).trans c1
      have HSN := hid ((args_snoc l k hlt).trans (by rw [HTD.out]))
      have HNK := hid (HNU.out l[k] (List.getElem_mem hlt))
      have HCL := hid (show T.length ≤ 100000 from by rw [← HTD.out, List.length_map, List.length_take]; have := HL.out; omega)
      have HLT := hid hlt; have HBO := hid hbr; have HGO := hid hga
      clear hcells c0 c1 hR hbr hga HTD
      generalize l[k] = x at *
      by_cases h0 : x.nm = []
      · have t4 : x.nm.isEmpty = true := by rw [h0]; rfl
        have HA := hid (show argT x = Lib.decDigits x.num from by unfold argT; rw [if_pos h0])
        clear h0
        go_wp2_with (first
          | (go_at_call 52; (refine (rnum_any x.num HNK.out _).mono ?_); rintro e w1 ⟨rfl, hb1⟩; have HB1 := hid (HBO.out.trans (hb1.mono HBO.out.size)); have HG1 := hid (HGO.out.keep hb1); clear hb1)
          | (at_builtin; refine wpList_push (K := kStr) (x := Lib.decDigits x.num) (cs := [.string ⟨(Lib.decDigits x.num).toArray⟩]) (te := 9) rfl _ _ 35 rfl Tryd.underlying35 _ 16 info_strG rfl HG1.out rfl rfl rfl (by have := HCL.out; omega) (by have := HCL.out; unfold maxLen; omega) HB1.out.size ?_; intro v5 w5 hg5 hgr5 hm5; have HG5 := hid hg5; have HB5 := hid (below_push HG1.out HB1.out hgr5 HB1.out.size); clear hg5 hgr5 hm5))
        go_roundw
        case rel => exact ⟨k + 1, HLT.out, by rw [wrap_next HLT.out HS.out.len], by rw [HSN.out, HA.out]; exact HG5.out, HB5.out⟩
        case measure => exact meas_next HLT.out HS.out.len
      · have t4 : x.nm.isEmpty = false := by simpa using h0
        have HA := hid (show argT x = x.nm from by unfold argT; rw [if_neg h0])
        clear h0
        go_wp2_with (at_builtin; refine wpList_push (K := kStr) (x := x.nm) (cs := [.string ⟨x.nm.toArray⟩]) (te := 9) rfl _ _ 35 rfl Tryd.underlying35 _ 16 info_strG rfl HGO.out rfl rfl rfl (by have := HCL.out; omega) (by have := HCL.out; unfold maxLen; omega) HBO.out.size ?_; intro v5 w5 hg5 hgr5 hm5; have HG5 := hid hg5; have HB5 := hid (below_push HGO.out HBO.out hgr5 HBO.out.size); clear hg5 hgr5 hm5)
        go_roundw
        case rel => exact ⟨k + 1, HLT.out, by rw [wrap_next HLT.out HS.out.len], by rw [HSN.out, HA.out]; exact HG5.out, HB5.out⟩
        case measure => exact meas_next HLT.out HS.out.len
    · obtain rfl : k = l.length := by omega
      have HBR := hid hbr; have HGA := hid hga
      clear hlt hbr hga
      go_wp2_with fail
      go_ret
      have hga := HGA.out
      have hT := HTD.out
      rw [List.take_length] at hT
      subst hT
      exact ⟨_, rfl, hga, HBR.out⟩

end Go.Proofs.YtoofbgoeipijcaaDoor
