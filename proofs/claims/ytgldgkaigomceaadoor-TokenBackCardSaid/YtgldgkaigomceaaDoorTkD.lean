/-
  Numbers: the program's and the reference's walks.
-/
import Derived.Test.YtgldgkaigomceaaDoorTkN
import Derived.IntWalk
namespace Go.Proofs.YtgldgkaigomceaaDoor
set_option linter.unusedSimpArgs false
set_option linter.unusedVariables false
open Go.RowKit Go.Shelf

theorem numGo_le : ∀ (s : Bs) (n : Nat), n ≤ 18446744073709551615 → (numGo s n).1 ≤ 18446744073709551615
  | [], n, h => h
  | c :: r, n, h => by
    unfold numGo
    split
    · exact Nat.zero_le _
    · have := c.toNat_lt; exact numGo_le r _ (by omega)
theorem numR_eq (sb : ByteArray) (h1 : 1 ≤ sb.size) (h2 : sb.size ≤ 20) : numR sb.data.toList = if sb.data.toList.all digB = true then numGo sb.data.toList 0 else (0, 4) := by
  unfold numR
  rw [if_neg]
  have : sb.data.toList.length = sb.size := rfl
  omega
theorem numR_bad (sb : ByteArray) (h : sb.size < 1 ∨ 20 < sb.size) : numR sb.data.toList = (0, 4) := by
  unfold numR
  rw [if_pos]
  have : sb.data.toList.length = sb.size := rfl
  omega
theorem ret_ui {a : Int} {c : Int} {p : Nat × Int} (h : p = (a.toNat, c)) (h0 : 0 ≤ a) : Ending.returned (.tuple #[.int .u64 a, .int .i64 c]) = .returned (.tuple #[.int .u64 (p.1 : Int), .int .i64 p.2]) := by
  rw [h]
  show _ = Ending.returned (.tuple #[.int .u64 (a.toNat : Int), .int .i64 c])
  rw [Int.toNat_of_nonneg h0]
def AllD (sb : ByteArray) : Prop := ∀ j (h : j < sb.size), 48 ≤ sb[j].toNat ∧ sb[j].toNat ≤ 57
theorem allD (sb : ByteArray) (h : sb.data.toList.all digB = true) : AllD sb := by
  intro j hj
  have := List.all_eq_true.1 h sb[j] (List.getElem_mem (show j < sb.data.toList.length from hj))
  simpa [digB] using this

set_option maxRecDepth 100000 in
set_option maxHeartbeats 4000000 in
theorem number_any (s : Bs) (w : World) (hs : s.length ≤ 140737488355328) : Calls Tryd.prog 14 #[.string ⟨s.toArray⟩] w fun e w' => e = .returned (.tuple #[.int .u64 ((numR s).1 : Int), .int .i64 (numR s).2]) ∧ Below w.heap.size w w' := by
  obtain ⟨sb, hsb⟩ : ∃ sb : ByteArray, (⟨s.toArray⟩ : ByteArray) = sb := ⟨_, rfl⟩
  have hsd : s = sb.data.toList := by rw [← hsb]
  have hsz : sb.size = s.length := by rw [← hsb]; exact size_mk s
  rw [hsb, hsd]
  have hs' : sb.size ≤ 140737488355328 := by omega
  have hem := empty_of sb
  have HBAD := hid (numR_bad sb); have HEQ := hid (numR_eq sb)
  obtain ⟨R, hR⟩ : ∃ R, numR sb.data.toList = R := ⟨_, rfl⟩
  rw [hR] at HBAD HEQ ⊢
  clear hsb hsd hsz hs hR
  by_cases h0 : sb.size = 0
  · have HB := hid (HBAD.out (.inl (by omega)))
    rw [show decide (sb.size = 0) = true from decide_eq_true (by omega)] at hem
    clear h0 HBAD HEQ
    go_enter Tryd.func14, Tryd.ntmps14
    go_wp2
    go_ret2
    exact ⟨ret_ui (by rw [HB.out]; rfl) (by omega), Below.refl _ _⟩
  · rw [show decide (sb.size = 0) = false from decide_eq_false (by omega)] at hem
    by_cases h20 : 20 < sb.size
    · have HB := hid (HBAD.out (.inr h20))
      have a0 : decide (20 < (sb.size : Int)) = true := by simp; omega
      clear h0 h20 HBAD HEQ
      go_enter Tryd.func14, Tryd.ntmps14
      go_wp2
      go_ret2
      exact ⟨ret_ui (by rw [HB.out]; rfl) (by omega), Below.refl _ _⟩
    · have HE := hid (HEQ.out (by omega) (by omega))
      have a0 : decide (20 < (sb.size : Int)) = false := by simp; omega
      have h1 : 0 < sb.size := by omega
      have h2 : sb.size ≤ 20 := by omega
      clear h0 h20 HBAD HEQ
      obtain ⟨cap, W1, hby, hbel, hcell⟩ := bytes_of sb w
      have HBEL := hid hbel; have HCELL := hid hcell
      clear hbel hcell
      go_enter Tryd.func14, Tryd.ntmps14
      go_wp2
      clear hby
      go_loop [2, 3, 20] (fun v2 v3 iv => ∃ k : Nat, k ≤ sb.size ∧ iv = .int .i64 k ∧ v2 = .int .u64 0 ∧ v3 = .int .i64 0 ∧ (sb.data.toList.take k).all digB = true) (fun _ _ iv => sb.size - (intOf iv).toNat)
      case atStart => exact ⟨0, Nat.zero_le _, rfl, rfl, rfl, rfl⟩
      case round =>
        obtain ⟨k, hk, rfl, rfl, rfl, hall⟩ := hrel
        by_cases hlt : k < sb.size
        · have hc := HCELL.out k hlt
          have hsn := all_snoc digB sb k hlt
          have hno := all_not digB sb k hlt
          rw [hall, Bool.true_and] at hsn
          have HSN := hid hsn; have HNO := hid hno; have HDG := hid (digit_any sb[k])
          clear hsn hno hall
          cases hd : digB sb[k] with
          | true =>
            rw [hd] at HDG HSN
            clear hd
            go_wp2_with (go_at_call 29; refine (HDG.out _).mono ?_; rintro e w' ⟨rfl, rfl⟩)
            go_round
            case rel => exact ⟨k + 1, by omega, by go_num, rfl, rfl, HSN.out⟩
            case measure => simp [intOf]; omega
          | false =>
            have HB := hid (show R = (0, 4) from by rw [HE.out, if_neg (by rw [HNO.out hd]; decide)])
            rw [hd] at HDG
            clear hd
            go_wp2_with (go_at_call 29; refine (HDG.out _).mono ?_; rintro e w' ⟨rfl, rfl⟩)
            go_ret2
            exact ⟨ret_ui (by rw [HB.out]; rfl) (by omega), HBEL.out⟩
        · obtain rfl : k = sb.size := by omega
          have hall' := all_full digB sb hall
          have HB := hid (show R = numGo sb.data.toList 0 from by rw [HE.out, if_pos hall'])
          have HD := hid (allD sb hall')
          clear hall hall' hk hlt HE
          obtain ⟨cap2, W2, hby2, hbel2, hcell2⟩ := bytes_of sb W1
          have HBEL2 := hid (HBEL.out.trans (hbel2.mono HBEL.out.size)); have HCELL2 := hid hcell2
          clear hbel2 hcell2
          go_wp2
          clear hby2
          go_loop [2, 3, 6, 31] (fun v2 v3 nv iv => ∃ (k n : Nat), k ≤ sb.size ∧ iv = .int .i64 k ∧ v2 = .int .u64 0 ∧ v3 = .int .i64 0 ∧ nv = .int .u64 n ∧ n ≤ 18446744073709551615 ∧ numGo (sb.data.toList.drop k) n = R) (fun _ _ _ iv => sb.size - (intOf iv).toNat)
          case atStart => exact ⟨0, 0, Nat.zero_le _, rfl, rfl, rfl, rfl, Nat.zero_le _, HB.out.symm⟩
          case round =>
            obtain ⟨k, n, hk, rfl, rfl, rfl, rfl, hn, hgo⟩ := hrel
            by_cases hlt : k < sb.size
            · have hc2 := HCELL2.out k hlt
              have hdr : sb.data.toList.drop k = sb[k] :: sb.data.toList.drop (k + 1) := List.drop_eq_getElem_cons hlt
              obtain ⟨d1, d2⟩ := HD.out k hlt
              rw [hdr] at hgo
              clear hdr
              unfold numGo at hgo
              generalize hc : sb[k].toNat = c at *
              by_cases hg : (18446744073709551615 - (c - 48)) / 10 < n
              · have hgi : (18446744073709551615 - ((c : Int) - 48)) / 10 < (n : Int) := by omega
                rw [if_pos hg] at hgo
                have HGO := hid hgo
                clear hg hgo hc
                go_wp2
                go_ret2
                exact ⟨ret_ui (by rw [← HGO.out]; rfl) (by omega), HBEL2.out⟩
              · have hgi : (n : Int) ≤ (18446744073709551615 - ((c : Int) - 48)) / 10 := by omega
                rw [if_neg hg] at hgo
                have HGO := hid hgo
                have hg2 : 10 * n + (c - 48) ≤ 18446744073709551615 := by omega
                have HG3 := hid (show (10 : Int) * (n : Int) + ((c : Int) - 48) = ((10 * n + (c - 48) : Nat) : Int) by omega)
                clear hg hgo hc
                go_wp2
                go_round
                case rel => exact ⟨k + 1, 10 * n + (c - 48), by omega, by go_num, rfl, rfl, by rw [HG3.out], hg2, HGO.out⟩
                case measure => simp [intOf]; omega
            · obtain rfl : k = sb.size := by omega
              have HGO := hid (show (n, (0 : Int)) = R from by rw [← hgo, show sb.data.toList.drop sb.size = [] from List.drop_eq_nil_of_le (Nat.le_refl _)]; rfl)
              clear hgo
              go_wp2
              go_ret2
              exact ⟨ret_ui (by rw [← HGO.out]; rfl) (by omega), HBEL2.out⟩

end Go.Proofs.YtgldgkaigomceaaDoor
