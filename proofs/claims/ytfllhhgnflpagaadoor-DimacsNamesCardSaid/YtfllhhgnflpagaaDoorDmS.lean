/-
  Small: at most 60 clauses, of at most 40 literals.
-/
import Derived.Test.YtfllhhgnflpagaaDoorDmE
namespace Go.Proofs.YtfllhhgnflpagaaDoor
set_option linter.unusedSimpArgs false
set_option linter.unusedVariables false
open Go.RowKit Go.Shelf
attribute [local go_sem] Oper.semAt_some

def smallF (l : List (List Int)) : Bool := decide (l.length ≤ 60) && l.all (fun c => decide (c.length ≤ 40))
theorem smallF_bad {l : List (List Int)} (k : Nat) (hk : k < l.length) (h : 40 < l[k].length) : smallF l = false := by
  unfold smallF
  rw [Bool.and_eq_false_iff]
  right
  rw [List.all_eq_false]
  exact ⟨l[k], List.getElem_mem hk, by simp; omega⟩
theorem smallF_ok {l : List (List Int)} (h : ∀ j (hj : j < l.length), j < 60 → l[j].length ≤ 40) : smallF l = decide (l.length ≤ 60) := by
  unfold smallF
  by_cases hl : l.length ≤ 60
  · have : l.all (fun c => decide (c.length ≤ 40)) = true := by
      rw [List.all_eq_true]
      intro c hc
      obtain ⟨j, hj, rfl⟩ := List.getElem_of_mem hc
      simpa using h j hj (by omega)
    rw [this, Bool.and_true]
  · simp [hl]

set_option maxRecDepth 100000 in
set_option maxHeartbeats 800000 in
theorem small_any (n : Int) (cls : List (List Int)) (v : Value) (w : World) (hv : LL (· < w.heap.size) w v cls) :
    Calls Tryd.prog 11 #[.agg #[.int .i64 n, v]] w fun e w' => e = .returned (.bool (smallF cls)) ∧ Below w.heap.size w w' := by
  obtain ⟨vs, ⟨p, cap, rfl, h1, h2, h3, hr⟩, hl, hx⟩ := hv
  obtain ⟨L, hL⟩ : ∃ L, vs.length = L := ⟨_, rfl⟩
  have hLc : cls.length = L := by omega
  have HR := hid hr; have HX := hid hx; have HL := hid hLc; have HLL := hid hL
  rw [hL] at h1 h3 ⊢
  clear hr hx hl hL
  obtain ⟨e0, he0⟩ : ∃ e0, smallF cls = e0 := ⟨_, rfl⟩
  have HE := hid he0
  rw [he0]
  have hbw : Below w.heap.size w (w.alloc (.cells #[.int .i64 n, .slice p L cap] 24)) := (Below.refl _ _).alloc (Nat.le_refl _) _
  have q1 : (w.alloc (.cells #[.int .i64 n, .slice p L cap] 24)).cell? ⟨w.heap.size, 1, none⟩ = some (.slice p L cap) := by rw [cell_al, if_pos rfl]; rfl
  generalize hw1 : World.alloc w (.cells #[.int .i64 n, .slice p L cap] 24) = w1 at *
  have HBW := hid hbw; have HW1 := hid hw1
  clear he0 hLc hbw hw1
  go_enter Tryd.func11, Tryd.ntmps11
  go_wp2_with (rw [HW1.out])
  go_loopw [3] (fun i wr => ∃ k : Nat, k ≤ L ∧ k ≤ 60 ∧ i = .int .i64 (k : Int) ∧ wr = w1 ∧ ∀ j (hj : j < cls.length), j < k → cls[j].length ≤ 40) (fun i _ => L - (intOf i).toNat)
  case atStart => exact ⟨0, by omega, by omega, rfl, rfl, fun j hj h => by omega⟩
  case round =>
    obtain ⟨k, hk, hk6, rfl, rfl, hbk⟩ := hrel
    by_cases hlt : k < L
    · have hkd : decide ((k : Int) < (L : Int)) = true := by simp; omega
      by_cases h60 : k < 60
      · have hkd6 : decide ((k : Int) < 60) = true := by simp; omega
        have hkc : k < cls.length := by have := HL.out; omega
        have hkv : k < vs.length := by have := HLL.out; omega
        obtain ⟨bk, off, rfl, hR1, hcell⟩ := HR.out.at k hkv
        have hck := (HBW.out.cell (p := ⟨bk, off + k, none⟩) hR1).trans (hcell k hkv)
        obtain ⟨pk, ck, hvk, _, _, _, _⟩ := (HX.out k hkc hkv).op
        rw [hvk] at hck
        obtain ⟨m, hm⟩ : ∃ m, cls[k].length = m := ⟨_, rfl⟩
        rw [hm] at hck
        have HBK := hid hbk; have HM := hid hm
        clear hcell hR1 hbk hvk hm hkv
        by_cases h40 : 40 < m
        · have d4 : decide (40 < (m : Int)) = true := by simp; omega
          have he : e0 = false := by rw [← HE.out]; exact smallF_bad k hkc (by rw [HM.out]; exact h40)
          subst he
          go_wp2_with fail
          go_ret
          exact ⟨rfl, HBW.out⟩
        · have d4 : decide (40 < (m : Int)) = false := by simp; omega
          go_wp2_with fail
          go_roundw
          case rel =>
            refine ⟨k + 1, by omega, by omega, by go_num, (by first | rfl | trivial), fun j hj hjk => ?_⟩
            by_cases hjk2 : j < k
            · exact HBK.out j hj hjk2
            · obtain rfl : j = k := by omega
              rw [HM.out]; omega
          case measure => (simp [intOf] <;> omega)
      · have hkd6 : decide ((k : Int) < 60) = false := by simp; omega
        have he : e0 = false := by
          rw [← HE.out, smallF_ok (fun j hj h6 => hbk j hj (by omega))]
          have := HL.out
          simp; omega
        have dl : decide ((L : Int) ≤ 60) = false := by simp; omega
        subst he
        clear hbk
        go_wp2_with fail
        go_ret
        exact ⟨rfl, HBW.out⟩
    · obtain rfl : k = L := by omega
      have dl : decide (((k : Nat) : Int) ≤ 60) = true := by simp; omega
      have he : e0 = true := by
        rw [← HE.out, smallF_ok (fun j hj h6 => hbk j hj (by have := HL.out; omega))]
        have := HL.out
        simp; omega
      subst he
      clear hbk
      go_wp2_with fail
      go_ret
      exact ⟨rfl, HBW.out⟩

end Go.Proofs.YtfllhhgnflpagaaDoor
