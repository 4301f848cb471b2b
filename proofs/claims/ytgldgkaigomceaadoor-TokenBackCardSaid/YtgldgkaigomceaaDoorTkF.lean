/-
  The law's own helpers: a text has these words; a text is wrong at a position; a word.
-/
import Derived.Test.YtgldgkaigomceaaDoorTkE
namespace Go.Proofs.YtgldgkaigomceaaDoor
set_option linter.unusedSimpArgs false
set_option linter.unusedVariables false
open Go.RowKit Go.Shelf
attribute [local go_sem] Oper.semAt_some

theorem linesR_code {s : Bs} {L C : Nat} {c : Int} (h : linesR s = .error (L, C, c)) : c = 4 ∨ c = 5 := by
  unfold linesR at h
  split at h
  · injection h with h; simp at h; omega
  · split at h
    · injection h with h; simp at h; omega
    · cases h

theorem word_any (s : ByteArray) (l c : Int) (w : World) :
    Calls Tryd.prog 21 #[.string s, .int .i64 l, .int .i64 c] w fun e w' => e = .returned (.agg #[.string s, .int .i64 l, .int .i64 c]) ∧ w.alloc (.cells #[.string s, .int .i64 l, .int .i64 c] 36) = w' := by
  go_enter Tryd.func21, Tryd.ntmps21
  go_wp2
  refine bodyPost_ret (v := .agg #[.string s, .int .i64 l, .int .i64 c]) (by simp [results, Tryd.results21, go_sem]) rfl ?_
  exact ⟨rfl, rfl⟩

theorem below_drewN' {B : Nat} {a w : World} (h : Below B a w) (n : Nat) : Below B a (w.drewN n) := ⟨h.os, h.tape, h.output, h.size, h.block⟩
theorem WLL.below {R : Nat → Prop} {w w' : World} {v : Value} {ws : List (List Wd)} (h : WLL R w v ws) (hR : ∀ k, R k → k < w.heap.size) (hb : Below w.heap.size w w') : WLL R w' v ws := h.keep fun k hk => ⟨hk, hb.block k (hR k hk)⟩
theorem WLL.nil {R : Nat → Prop} {w : World} : WLL R w (.slice none 0 0) [] := ⟨[], Sl.nil, rfl, fun i h => absurd h (by simp)⟩

set_option maxRecDepth 100000 in
set_option maxHeartbeats 2000000 in
theorem says_any (s : Bs) (ws : List (List Wd)) (v : Value) (m : Int) (R : Nat → Prop) (w : World) (hv : WLL R w v ws) (hR : ∀ k, R k → k < w.heap.size) (hm : w.cell? ⟨1, 0, none⟩ = some (.int .i64 m)) :
    Calls Tryd.prog 20 #[.string ⟨s.toArray⟩, v] w fun e w' => e = .returned (.bool (match linesR s with | .ok o => decide (o = ws) | .error _ => false)) ∧ Below w.heap.size w w' := by
  obtain ⟨r, hr⟩ : ∃ r, (match linesR s with | .ok o => decide (o = ws) | .error _ => false) = r := ⟨_, rfl⟩
  rw [hr]
  have HV := hid hv
  have HL := hid (lines_any s m w hm)
  obtain ⟨pv, cv, xs, rfl⟩ : ∃ p c n, v = .slice p n c := by obtain ⟨xs, ⟨p, c, e, _⟩, _⟩ := hv; exact ⟨p, c, _, e⟩
  clear hv
  cases hlr : linesR s with
  | error q =>
    obtain ⟨L, C, c⟩ := q
    have hc := linesR_code hlr
    have HB := hid (show r = false from by rw [← hr, hlr])
    have HP := hid (show LinesPost s w = _ from by unfold LinesPost; rw [hlr])
    clear hr hlr
    have hc0 : (c == 0) = false := by simp; omega
    go_enter Tryd.func20, Tryd.ntmps20
    go_wp2_with fail
    refine HL.out.mono ?_
    rw [HP.out]
    rintro e w1 ⟨hb, rfl⟩
    have hb2 : Below w.heap.size w (w1.alloc (.cells #[.int .i64 (L : Int), .int .i64 (C : Int)] 29)) := hb.alloc hb.size _
    have hq := eqlines_any [] ws (.slice none 0 0) _ (fun _ => False) R _ WLL.nil (HV.out.below hR hb2)
    have HQ := hid hq; have HB2 := hid hb2
    clear hq hb2 hb
    by_cases hw : ([] : List (List Wd)) = ws
    · rw [decide_eq_true hw] at HQ
      clear HP HL HV hm
      generalize (L : Int) = l at *
      generalize (C : Int) = k at *
      by_cases hL : l = 0
      · subst hL
        by_cases hC : k = 0
        · subst hC
          go_wp2_with (go_at_call 35; with_reducible refine HQ.out.mono ?_; rintro e w3 ⟨rfl, n, rfl⟩)
          go_ret
          exact ⟨ret_b HB.out.symm, below_drewN' HB2.out _⟩
        · have e1 : (k == 0) = false := by simp [hC]
          go_wp2_with (go_at_call 35; with_reducible refine HQ.out.mono ?_; rintro e w3 ⟨rfl, n, rfl⟩)
          go_ret
          exact ⟨ret_b HB.out.symm, below_drewN' HB2.out _⟩
      · have e1 : (l == 0) = false := by simp [hL]
        go_wp2_with (go_at_call 35; with_reducible refine HQ.out.mono ?_; rintro e w3 ⟨rfl, n, rfl⟩)
        go_ret
        exact ⟨ret_b HB.out.symm, below_drewN' HB2.out _⟩
    · rw [decide_eq_false hw] at HQ
      go_wp2_with (go_at_call 35; with_reducible refine HQ.out.mono ?_; rintro e w3 ⟨rfl, n, rfl⟩)
      go_ret
      exact ⟨ret_b HB.out.symm, below_drewN' HB2.out _⟩
  | ok out =>
    have HB := hid (show decide (out = ws) = r from by rw [← hr, hlr])
    have HP := hid (show LinesPost s w = _ from by unfold LinesPost; rw [hlr])
    clear hr hlr
    go_enter Tryd.func20, Tryd.ntmps20
    go_wp2_with fail
    refine HL.out.mono ?_
    rw [HP.out]
    rintro e w1 ⟨hb, v1, rfl, h1, _⟩
    have hb2 : Below w.heap.size w (w1.alloc (.cells #[.int .i64 0, .int .i64 0] 29)) := hb.alloc hb.size _
    have hq := eqlines_any out ws v1 _ (fun k => k < w1.heap.size) R (w1.alloc (.cells #[.int .i64 0, .int .i64 0] 29)) (h1.keep fun k hk => ⟨hk.2.size, by rw [heap_al, if_neg (Nat.ne_of_lt hk.2.size)]⟩) (HV.out.below hR hb2)
    obtain ⟨p1, c1, n1, rfl⟩ : ∃ p c n, v1 = .slice p n c := by obtain ⟨xs, ⟨p, c, e, _⟩, _⟩ := h1; exact ⟨p, c, _, e⟩
    rw [HB.out] at hq
    have HQ := hid hq; have HB2 := hid hb2
    clear hq hb2 hb h1 HB
    cases r with
    | true =>
      go_wp2_with (go_at_call 35; with_reducible refine HQ.out.mono ?_; rintro e w3 ⟨rfl, n, rfl⟩)
      go_ret
      exact ⟨rfl, below_drewN' HB2.out _⟩
    | false =>
      go_wp2_with (go_at_call 35; with_reducible refine HQ.out.mono ?_; rintro e w3 ⟨rfl, n, rfl⟩)
      go_ret
      exact ⟨rfl, below_drewN' HB2.out _⟩

set_option maxRecDepth 100000 in
set_option maxHeartbeats 2000000 in
theorem fails_any (s : Bs) (L0 C0 : Int) (m : Int) (w : World) (hm : w.cell? ⟨1, 0, none⟩ = some (.int .i64 m)) :
    Calls Tryd.prog 22 #[.string ⟨s.toArray⟩, .int .i64 L0, .int .i64 C0] w fun e w' => e = .returned (.bool (match linesR s with | .ok o => false | .error (L, C, c) => decide ((L : Int) = L0 ∧ (C : Int) = C0 ∧ c = 4))) ∧ Below w.heap.size w w' := by
  obtain ⟨r, hr⟩ : ∃ r, (match linesR s with | .ok o => false | .error (L, C, c) => decide ((L : Int) = L0 ∧ (C : Int) = C0 ∧ c = 4)) = r := ⟨_, rfl⟩
  rw [hr]
  have HL := hid (lines_any s m w hm)
  cases hlr : linesR s with
  | error q =>
    obtain ⟨L, C, c⟩ := q
    have HCC := hid (linesR_code hlr)
    have HB := hid (show r = decide ((L : Int) = L0 ∧ (C : Int) = C0 ∧ c = 4) from by rw [← hr, hlr])
    have HP := hid (show LinesPost s w = _ from by unfold LinesPost; rw [hlr])
    clear hr hlr
    go_enter Tryd.func22, Tryd.ntmps22
    go_wp2_with fail
    refine HL.out.mono ?_
    rw [HP.out]
    rintro e w1 ⟨hb, rfl⟩
    have HB2 := hid (show Below w.heap.size w (w1.alloc (.cells #[.int .i64 (L : Int), .int .i64 (C : Int)] 29)) from hb.alloc hb.size _)
    clear hb HP HL hm
    by_cases h1 : (L : Int) = L0
    · subst h1
      by_cases h2 : (C : Int) = C0
      · subst h2
        go_wp2
        go_ret
        exact ⟨ret_b (by rw [HB.out]; rcases HCC.out with h | h <;> rw [h] <;> simp), HB2.out⟩
      · have HN := hid h2
        have h2' : ((C : Int) == C0) = false := by simp [h2]
        go_wp2
        go_ret
        exact ⟨ret_b (by rw [HB.out]; simp [HN.out]), HB2.out⟩
    · have HN := hid h1
      have h1' : ((L : Int) == L0) = false := by simp [h1]
      go_wp2
      go_ret
      exact ⟨ret_b (by rw [HB.out]; simp [HN.out]), HB2.out⟩
  | ok out =>
    have HB := hid (show r = false from by rw [← hr, hlr])
    have HP := hid (show LinesPost s w = _ from by unfold LinesPost; rw [hlr])
    clear hr hlr
    go_enter Tryd.func22, Tryd.ntmps22
    go_wp2_with fail
    refine HL.out.mono ?_
    rw [HP.out]
    rintro e w1 ⟨hb, v1, rfl, h1, _⟩
    have HB2 := hid (show Below w.heap.size w (w1.alloc (.cells #[.int .i64 0, .int .i64 0] 29)) from hb.alloc hb.size _)
    obtain ⟨p1, c1, n1, rfl⟩ : ∃ p c n, v1 = .slice p n c := by obtain ⟨xs, ⟨p, c, e, _⟩, _⟩ := h1; exact ⟨p, c, _, e⟩
    clear hb HP HL hm h1
    by_cases hz : n1 = 0
    · subst hz
      by_cases hL : L0 = 0
      · subst hL
        by_cases hC : C0 = 0
        · subst hC
          go_wp2
          go_ret
          exact ⟨ret_b HB.out.symm, HB2.out⟩
        · have e1 : ((0 : Int) == C0) = false := by simp; omega
          go_wp2
          go_ret
          exact ⟨ret_b HB.out.symm, HB2.out⟩
      · have e1 : ((0 : Int) == L0) = false := by simp; omega
        go_wp2
        go_ret
        exact ⟨ret_b HB.out.symm, HB2.out⟩
    · have hz' : ((n1 : Int) == 0) = false := by simp; omega
      go_wp2
      all_goals (go_ret; exact ⟨ret_b HB.out.symm, HB2.out⟩)

end Go.Proofs.YtgldgkaigomceaaDoor
