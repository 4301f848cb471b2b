/-
  cnf.Check.
-/
import Derived.Test.YtfllhhgnflpagaaDoorDmC
import Derived.ScopeJumps
import Derived.WalkMore
namespace Go.Proofs.YtfllhhgnflpagaaDoor
set_option linter.unusedSimpArgs false
set_option linter.unusedVariables false
open Go.RowKit Go.Shelf
attribute [local go_sem] Oper.semAt_some

/-- What holds at the jump. -/
def JK (e0 : Int) (B : Nat) (w0 : World) (a : Act) (w : World) : Prop := (∃ u0 u1 u3 u4 u5 u6 u7 u8 u9 u10 u11 u12 u13 u14 u15 u16 u17 u18 u19 u20 u21 u22 u23 u24 u25 u26 u27 u28 u29 u30 u31 : Value, a = { tmps := #[u0, u1, .int .i64 e0, u3, u4, u5, u6, u7, u8, u9, u10, u11, u12, u13, u14, u15, u16, u17, u18, u19, u20, u21, u22, u23, u24, u25, u26, u27, u28, u29, u30, u31], defers := [] }) ∧ Below B w0 w
theorem checkM_big {n : Int} {l : List (List Int)} (h : n < 0 ∨ 1048576 < n) : checkM n l = 3 := by unfold checkM; rw [if_pos h]
theorem checkM_long {n : Int} {l : List (List Int)} (h : ¬ (n < 0 ∨ 1048576 < n)) (h1 : 1048576 < l.length) : checkM n l = 5 := by unfold checkM; rw [if_neg h, if_pos h1]
theorem litsM_bad {n : Int} : ∀ (l : List (List Int)) (k : Nat) (hk : k < l.length), (∀ j (hj : j < l.length), j < k → litM n l[j] = 0) → litM n l[k] ≠ 0 → litsM n l = litM n l[k]
  | [], k, hk, _, _ => absurd hk (by simp)
  | c :: r, 0, _, _, h => (show (if litM n c ≠ 0 then litM n c else litsM n r) = litM n c from if_pos h)
  | c :: r, k + 1, hk, hb, h => by
    have h0 := hb 0 (by simp) (by omega)
    unfold litsM
    rw [if_neg (by simpa using h0)]
    exact litsM_bad r k (by simpa using hk) (fun j hj hjk => hb (j + 1) (by simpa using hj) (by omega)) h
theorem litsM_ok {n : Int} : ∀ (l : List (List Int)), (∀ j (hj : j < l.length), litM n l[j] = 0) → litsM n l = 0
  | [], _ => rfl
  | c :: r, hb => by
    have h0 := hb 0 (by simp)
    unfold litsM
    rw [if_neg (by simpa using h0)]
    exact litsM_ok r (fun j hj => hb (j + 1) (by simpa using hj))
theorem checkM_of {n : Int} {l : List (List Int)} {e : Int} (h : ¬ (n < 0 ∨ 1048576 < n)) (h1 : ¬ 1048576 < l.length) (h2 : litsM n l = e) : checkM n l = e := by unfold checkM; rw [if_neg h, if_neg h1, h2]

set_option maxRecDepth 100000 in
set_option maxHeartbeats 800000 in
theorem ccheck_any (n : Int) (cls : List (List Int)) (v : Value) (w : World) (hv : LL (· < w.heap.size) w v cls) (hb : ∀ c ∈ cls, ∀ a ∈ c, -9223372036854775808 ≤ a ∧ a ≤ 9223372036854775807) (hn0 : -9223372036854775808 ≤ n) (hn1 : n ≤ 9223372036854775807) :
    Calls Tryd.prog 19 #[.agg #[.int .i64 n, v]] w fun e w' => e = .returned (.int .i64 (checkM n cls)) ∧ Below w.heap.size w w' := by
  obtain ⟨vs, ⟨p, cap, rfl, h1, h2, h3, hr⟩, hl, hx⟩ := hv
  obtain ⟨L, hL⟩ : ∃ L, vs.length = L := ⟨_, rfl⟩
  have hLc : cls.length = L := by omega
  have HB := hid hb; have HR := hid hr; have HX := hid hx; have HL := hid hLc; have HLL := hid hL
  rw [hL] at h1 h3 ⊢
  clear hb hr hx hl hL
  obtain ⟨e0, he0⟩ : ∃ e0, checkM n cls = e0 := ⟨_, rfl⟩
  have HE := hid he0
  rw [he0]
  have hbw : Below w.heap.size w (w.alloc (.cells #[.int .i64 n, .slice p L cap] 24)) := (Below.refl _ _).alloc (Nat.le_refl _) _
  have q0 : (w.alloc (.cells #[.int .i64 n, .slice p L cap] 24)).cell? ⟨w.heap.size, 0, none⟩ = some (.int .i64 n) := by rw [cell_al, if_pos rfl]; rfl
  have q1 : (w.alloc (.cells #[.int .i64 n, .slice p L cap] 24)).cell? ⟨w.heap.size, 1, none⟩ = some (.slice p L cap) := by rw [cell_al, if_pos rfl]; rfl
  have HBW := hid hbw; have Q0 := hid q0; have Q1 := hid q1
  clear he0 hLc hbw q0 q1
  go_enter Tryd.func19, Tryd.ntmps19
  go_wp2_with fail
  generalize World.alloc w _ = w1 at *
  have q0 := Q0.out; have q1 := Q1.out
  refine wp_scope_jumps 0 (JK e0 w.heap.size w) (fun _ _ => 0) rfl ?_ ?_
  rotate_left
  · rintro a w2 ⟨⟨u0, u1, u3, u4, u5, u6, u7, u8, u9, u10, u11, u12, u13, u14, u15, u16, u17, u18, u19, u20, u21, u22, u23, u24, u25, u26, u27, u28, u29, u30, u31, rfl⟩, hb2⟩
    have HB2 := hid hb2
    clear hb2
    go_wp2
    simp only [Exit.jump]
    go_ret
    exact ⟨rfl, HB2.out⟩
  by_cases hneg : n < 0
  · have d1 : decide (n < 0) = true := by simp [hneg]
    have he : e0 = 3 := by rw [← HE.out]; exact checkM_big (.inl hneg)
    subst he
    go_wp2_with fail
    simp only [Exit.jump]
    go_ret
    exact ⟨rfl, HBW.out⟩
  by_cases hbig : 1048576 < n
  · have d1 : decide (n < 0) = false := by simp; omega
    have d2 : decide (1048576 < n) = true := by simp [hbig]
    have he : e0 = 3 := by rw [← HE.out]; exact checkM_big (.inr hbig)
    subst he
    go_wp2_with fail
    simp only [Exit.jump]
    go_ret
    exact ⟨rfl, HBW.out⟩
  have hno : ¬ (n < 0 ∨ 1048576 < n) := by omega
  have d1 : decide (n < 0) = false := by simp; omega
  have d2 : decide (1048576 < n) = false := by simp; omega
  have HNO := hid hno
  clear hno
  by_cases hlong : 1048576 < L
  · have d3 : decide (1048576 < (L : Int)) = true := by simp; omega
    have he : e0 = 5 := by rw [← HE.out]; exact checkM_long HNO.out (by have := HL.out; omega)
    subst he
    go_wp2_with fail
    simp only [Exit.jump]
    go_ret
    exact ⟨rfl, HBW.out⟩
  have d3 : decide (1048576 < (L : Int)) = false := by simp; omega
  go_wp2_with fail
  go_loopw [2, 20] (fun e i wr => ∃ k : Nat, k ≤ L ∧ e = .int .i64 0 ∧ i = .int .i64 (k : Int) ∧ wr = w1 ∧ ∀ j (hj : j < cls.length), j < k → litM n cls[j] = 0) (fun _ i _ => L - (intOf i).toNat)
  case atStart => exact ⟨0, by omega, rfl, rfl, rfl, fun j hj h => by omega⟩
  case round =>
    obtain ⟨k, hk, rfl, rfl, rfl, hbk⟩ := hrel
    by_cases hlt : k < L
    · have hkd : decide ((k : Int) < (L : Int)) = true := by simp; omega
      have hkc : k < cls.length := by have := HL.out; omega
      have hkv : k < vs.length := by have := HLL.out; omega
      obtain ⟨bk, off, rfl, hR1, hcell⟩ := HR.out.at k hkv
      have hck := (HBW.out.cell (p := ⟨bk, off + k, none⟩) hR1).trans (hcell k hkv)
      have hix := (HX.out k hkc hkv).keep (R' := (· < wr.heap.size)) (fun i hi => ⟨Nat.lt_of_lt_of_le hi HBW.out.size, HBW.out.block i hi⟩)
      have HC := hid (lcheck_any _ n cls[k] vs[k] wr hix (HB.out _ (List.getElem_mem hkc)) hn0 hn1)
      obtain ⟨vk, hvk⟩ : ∃ vk, vs[k] = vk := ⟨_, rfl⟩
      rw [hvk] at hck HC
      obtain ⟨ek, hek⟩ : ∃ ek, litM n cls[k] = ek := ⟨_, rfl⟩
      rw [hek] at HC
      have HBK := hid hbk; have HEK := hid hek
      clear hcell hR1 hbk hix hvk hek hkv
      by_cases hz : ek = 0
      · subst hz
        go_wp2_with (go_at_call 34; refine HC.out.mono ?_; rintro e w5 ⟨rfl, rfl⟩)
        go_roundw
        case rel =>
          refine ⟨k + 1, by omega, rfl, by go_num, (by first | rfl | trivial), fun j hj hjk => ?_⟩
          by_cases hjk2 : j < k
          · exact HBK.out j hj hjk2
          · obtain rfl : j = k := by omega
            exact HEK.out
        case measure => (simp [intOf] <;> omega)
      · have hz1 : (ek != 0) = true := by simp [hz]
        have he : e0 = ek := by rw [← HE.out]; exact checkM_of HNO.out (by have := HL.out; omega) ((litsM_bad cls k hkc HBK.out (by rw [HEK.out]; exact hz)).trans HEK.out)
        subst he
        go_wp2_with (first | (go_at_call 34; refine HC.out.mono ?_; rintro e w5 ⟨rfl, rfl⟩))
        refine wp_goto ?_
        exact (show 0 = 0 ∧ JK e0 w.heap.size w _ _ from ⟨rfl, ⟨_, _, _, _, _, _, _, _, _, _, _, _, _, _, _, _, _, _, _, _, _, _, _, _, _, _, _, _, _, _, _, rfl⟩, HBW.out⟩)
    · obtain rfl : k = L := by omega
      have he : e0 = 0 := by rw [← HE.out]; exact checkM_of HNO.out (by have := HL.out; omega) (litsM_ok cls (fun j hj => hbk j hj (by have := HL.out; omega)))
      subst he
      clear hbk
      go_wp2_with fail
      simp only [Exit.jump]
      go_ret
      exact ⟨rfl, HBW.out⟩

end Go.Proofs.YtfllhhgnflpagaaDoor
