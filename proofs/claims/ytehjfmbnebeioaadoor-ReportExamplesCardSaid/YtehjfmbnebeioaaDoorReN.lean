/-
  The reference of reports: numbers and joined words (weepholeref24).
-/
import Derived.Test.YtehjfmbnebeioaaDoorReP
import Derived.Test.YtehjfmbnebeioaaDoorRpL
namespace Go.Proofs.YtehjfmbnebeioaaDoor
set_option linter.unusedSimpArgs false
set_option linter.unusedVariables false
open Go.RowKit Go.Shelf
attribute [local go_sem] Oper.semAt_some

theorem conv8r (C : UInt8) (w : World) : (convert 63 9 (.slice (some ⟨w.heap.size, 0, none⟩) 1 1)).run Tryd.prog (w.alloc (.cells #[.int .u8 (C.toNat : Int)] 5)) = .ok (.string ⟨#[C]⟩) (w.alloc (.cells #[.int .u8 (C.toNat : Int)] 5)) :=
  run_convert_bytes_back _ 63 9 5 ⟨w.heap.size, 0, none⟩ 1 [C] Tryd.underlying63 Tryd.underlying5 Tryd.underlying9 (fun j hj => by
    obtain rfl : j = 0 := by simpa using hj
    show (w.alloc (.cells #[.int .u8 (C.toNat : Int)] 5)).cell? ⟨w.heap.size, 0, none⟩ = some (.int .u8 (C.toNat : Int))
    rw [cell_of_row _ _ 0 _ _ _ (show (w.alloc (.cells #[.int .u8 (C.toNat : Int)] 5)).heap[w.heap.size]? = some (.cells #[.int .u8 (C.toNat : Int)] 5 (0, 0)) from by rw [heap_al, if_pos rfl])]
    rfl)
set_option maxRecDepth 100000 in
set_option maxHeartbeats 400000 in
/-- A number in decimal digits. -/
theorem rnumR_any (u : Nat) (hu : u ≤ 18446744073709551615) (w : World) : Calls Tryd.prog 53 #[.int .u64 (u : Int)] w fun e w' => e = .returned (.string ⟨(Lib.decDigits u).toArray⟩) ∧ Below w.heap.size w w' := by
  induction u using Nat.strongRecOn generalizing w with
  | _ u ih =>
    have HU := hid hu
    obtain ⟨r, hr⟩ : ∃ r, u % 10 = r := ⟨_, rfl⟩
    have hr10 : r < 10 := by omega
    have hrz : (u : Int) % 10 = (r : Int) := by omega
    have hrt : (u : Int).tmod 10 = (r : Int) := by rw [Int.tmod_eq_emod_of_nonneg (by omega)]; exact hrz
    obtain ⟨C, hC⟩ : ∃ C, UInt8.ofNat (48 + r) = C := ⟨_, rfl⟩
    have hCn : 48 + (r : Int) = (C.toNat : Int) := by rw [← hC, UInt8.toNat_ofNat']; omega
    have e2 : IntKind.u64.wrap (48 + (r : Int)) = (C.toNat : Int) := by rw [← hCn]; exact IntWalk.u64_in _ (by omega)
    have e3 : IntKind.u8.wrap (C.toNat : Int) = (C.toNat : Int) := IntWalk.u8_in _ (by have := C.toNat_lt; omega)
    have hcv := conv8r C
    by_cases h : u < 10
    · have HD := hid (show Lib.decDigits u = [C] from by rw [← hC, Lib.decDigits_one h, ← hr]; congr; omega)
      have h' : decide ((u : Int) < 10) = true := by simp; omega
      clear ih hu h hC hCn
      go_enter Tryd.func53, Tryd.ntmps53
      go_wp2_with fail
      go_ret
      exact ⟨by rw [HD.out]; rfl, (Below.refl _ _).alloc (Nat.le_refl _) _⟩
    · obtain ⟨q, hq⟩ : ∃ q, u / 10 = q := ⟨_, rfl⟩
      have HD := hid (show Lib.decDigits u = Lib.decDigits q ++ [C] from by rw [Lib.decDigits, dif_neg h, hr, hq, hC])
      have h' : decide ((u : Int) < 10) = false := by simp; omega
      have HIH := hid (ih q (by omega) (by omega))
      have hqz : (u : Int) / 10 = (q : Int) := by omega
      have hqt : (u : Int).tdiv 10 = (q : Int) := by rw [Int.tdiv_eq_ediv_of_nonneg (by omega)]; exact hqz
      have hql : q < 18446744073709551616 := by omega
      obtain ⟨D, hDq⟩ : ∃ D, Lib.decDigits q = D := ⟨_, rfl⟩
      rw [hDq] at HD HIH
      have hk1 : ¬ 9223372036854775807 < D.length + 1 := by rw [← hDq, Lib.decDigits_length]; have := nDigits_20 q (by omega); omega
      clear ih hu h hC hq hDq hr hCn
      go_enter Tryd.func53, Tryd.ntmps53
      go_wp2_with (go_at_call 53; (with_reducible refine (HIH.out _).mono ?_); rintro e w1 ⟨rfl, hb1⟩; have HB1 := hid (((Below.refl w.heap.size w).alloc (Nat.le_refl _) _).trans (hb1.mono (by rw [World.size_alloc]; omega))); clear hb1)
      go_ret
      refine ⟨?_, HB1.out⟩
      rw [HD.out]
      show Ending.returned (.string (⟨D.toArray⟩ ++ ⟨#[C]⟩)) = _
      rw [ByteArray.mk_append_mk]

set_option maxRecDepth 100000 in
set_option maxHeartbeats 1000000 in
/-- Words with blanks between them. -/
theorem rjoinR_any (l : List By) (v : Value) (R : Nat → Prop) (w : World) (h : Strs R w v l) (hl : l.length ≤ 1000) (hs : ∀ s ∈ l, s.length ≤ 1000) :
    Calls Tryd.prog 43 #[v] w fun e w' => e = .returned (.string ⟨(jnR l).toArray⟩) ∧ Below w.heap.size w w' := by
  obtain ⟨p, c, rfl, g1, g2, g3, hr⟩ := h.op
  have HR := hid hr; have HL := hid hl; have HSS := hid hs
  clear h hl hs hr
  go_enter Tryd.func43, Tryd.ntmps43
  go_wp2
  go_loopw [3, 4] (fun ov iv wr => ∃ k : Nat, k ≤ l.length ∧ iv = .int .i64 (k : Int) ∧ ov = .string ⟨(jnR (l.take k)).toArray⟩ ∧ wr = w) (fun _ iv _ => l.length - (intOf iv).toNat)
  case atStart => exact ⟨0, Nat.zero_le _, rfl, rfl, rfl⟩
  case round =>
    obtain ⟨k, hk, rfl, rfl, rfl⟩ := hrel
    by_cases hlt : k < l.length
    · obtain ⟨b, off, rfl, hR0, hcells⟩ := HR.out.atS k hlt
      have hc := hcells k hlt
      have HST := hid (jnR_step l k hlt)
      have hs1 : (l[k]).length ≤ 1000 := HSS.out _ (List.getElem_mem hlt)
      have hs2 : (jnR (l.take k)).length ≤ 1001000 := Nat.le_trans (jnR_len 1000 _ fun s hs => HSS.out s (List.mem_of_mem_take hs)) (by rw [List.length_take]; have := HL.out; have : min k l.length ≤ 1000 := (by omega); omega)
      have HLT := hid hlt
      obtain ⟨J, hJ⟩ : ∃ J, jnR (l.take k) = J := ⟨_, rfl⟩
      rw [hJ] at HST hs2
      rw [hJ]
      have hJ0 : k = 0 → J = [] := fun h => by subst h; exact hJ.symm
      clear hcells hR0 hJ
      generalize l[k] = x at *
      have zJ : (⟨J.toArray⟩ : ByteArray).size = J.length := size_mkS J
      have zx : (⟨x.toArray⟩ : ByteArray).size = x.length := size_mkS x
      have hk1 : ¬ 9223372036854775807 < J.length + 1 := by omega
      have hk2 : ¬ 9223372036854775807 < J.length + 1 + x.length := by omega
      have hk3 : ¬ 9223372036854775807 < J.length + x.length := by omega
      by_cases h0 : k = 0
      · have g0 : decide ((0 : Int) < (k : Int)) = false := by simp; omega
        have HJ0 := hid (show jnR (l.take (k + 1)) = x from by rw [HST.out, if_pos h0])
        have g0n : ¬ (0 < k) := by omega
        obtain rfl := hJ0 h0
        clear hs1 hs2 h0
        go_wp2_with fail
        go_roundw
        case rel => exact ⟨k + 1, HLT.out, by go_num, by rw [HJ0.out, ByteArray.mk_append_mk]; simp, trivial⟩
        case measure => simp [intOf]; omega
      · have g0 : decide ((0 : Int) < (k : Int)) = true := by simp; omega
        have HJ0 := hid (show jnR (l.take (k + 1)) = J ++ [32] ++ x from by rw [HST.out, if_neg h0])
        have g0n : 0 < k := by omega
        clear hs1 hs2 hJ0 h0
        go_wp2_with fail
        go_roundw
        case rel =>
          refine ⟨k + 1, HLT.out, by go_num, ?_, trivial⟩
          rw [HJ0.out, ByteArray.mk_append_mk, ByteArray.mk_append_mk]
        case measure => simp [intOf]; omega
    · obtain rfl : k = l.length := by omega
      clear hlt
      go_wp2_with fail
      go_ret
      exact ⟨by rw [List.take_length]; rfl, Below.refl _ _⟩

end Go.Proofs.YtehjfmbnebeioaaDoor
