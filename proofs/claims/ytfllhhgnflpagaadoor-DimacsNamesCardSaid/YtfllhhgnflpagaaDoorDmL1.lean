/-
  DimacsFormats, DimacsParses: the walks.
-/
import Derived.Test.YtfllhhgnflpagaaDoorDmT
import Derived.Test.YtfllhhgnflpagaaDoorDmS
namespace Go.Proofs.YtfllhhgnflpagaaDoor
set_option linter.unusedSimpArgs false
set_option linter.unusedVariables false
open Go.RowKit Go.Shelf
attribute [local go_sem] Oper.semAt_some

theorem LL.bel {w W : World} {v : Value} {ls : List (List Int)} (h : LL (· < w.heap.size) w v ls) (hb : Below w.heap.size w W) : LL (· < W.heap.size) W v ls := h.keep fun k hk => ⟨Nat.lt_of_lt_of_le hk hb.size, hb.block k hk⟩
/-- The values that come in. -/
def LBnd (ls : List (List Int)) : Prop := ∀ c ∈ ls, ∀ a ∈ c, -9223372036854775808 ≤ a ∧ a ≤ 9223372036854775807
theorem fmt_is {n : Int} {cls : List (List Int)} {a : Bs} {b : Int} (h : formatM n cls = (a, b)) {v : Value} (w : World) (hv : LL (· < w.heap.size) w v cls) (hb : LBnd cls) (hn : -9223372036854775808 ≤ n ∧ n ≤ 9223372036854775807) (hE : Env w) :
    Calls Tryd.prog 13 #[.agg #[.int .i64 n, v]] w fun e w' => e = .returned (.tuple #[.string ⟨a.toArray⟩, .int .i64 b]) ∧ Below w.heap.size w w' := by
  have := format_any n cls v w hv hb hn.1 hn.2 hE
  rw [h] at this
  exact this
theorem rfmt_is {n : Int} {cls : List (List Int)} {a : Bs} {b : Int} (h : formatM n cls = (a, b)) {v : Value} (w : World) (hv : LL (· < w.heap.size) w v cls) (hb : LBnd cls) (hn : -9223372036854775808 ≤ n ∧ n ≤ 9223372036854775807) (hE : Env w) :
    Calls Tryd.prog 14 #[.agg #[.int .i64 n, v]] w fun e w' => e = .returned (.tuple #[.string ⟨a.toArray⟩, .int .i64 b]) ∧ Below w.heap.size w w' := by
  have := rformat_any n cls v w hv hb hn.1 hn.2 hE
  rw [h] at this
  exact this
theorem prs_is {s : Bs} {n : Int} {cls : List (List Int)} {a b : Int} (h : parseM s = ((n, cls), a, b)) (w : World) (hE : Env w) :
    Calls Tryd.prog 15 #[.string ⟨s.toArray⟩] w fun e w' => ∃ cv, e = .returned (.tuple #[.agg #[.int .i64 n, cv], .int .i64 a, .int .i64 b]) ∧ LL (fun k => w.heap.size ≤ k ∧ k < w'.heap.size) w' cv cls ∧ Below w.heap.size w w' := by
  have := parse_any s w hE
  unfold ParsePost at this
  rw [h] at this
  exact this
theorem rprs_is {s : Bs} {n : Int} {cls : List (List Int)} {a b : Int} (h : parseM s = ((n, cls), a, b)) (w : World) :
    Calls Tryd.prog 16 #[.string ⟨s.toArray⟩] w fun e w' => ∃ cv, e = .returned (.tuple #[.agg #[.int .i64 n, cv], .int .i64 a, .int .i64 b]) ∧ LL (fun k => w.heap.size ≤ k ∧ k < w'.heap.size) w' cv cls ∧ Below w.heap.size w w' := by
  have := rparse_any s w
  unfold ParsePost at this
  rw [h] at this
  exact this
set_option maxRecDepth 100000 in
set_option maxHeartbeats 2000000 in
theorem formats_walk (n : Int) (p : Option Addr) (len cap : Nat) (cls : List (List Int)) (w : World) (hn : -9223372036854775808 ≤ n ∧ n ≤ 9223372036854775807) (hv : LL (· < w.heap.size) w (.slice p len cap) cls) (hb : LBnd cls) (hE : Env w) :
    Calls Tryd.prog 3 #[.agg #[.int .i64 n, .slice p len cap]] w fun e w' => e = .returned (.bool true) ∧ Below w.heap.size w w' := by
  obtain ⟨w1, hw1⟩ : ∃ x, w.alloc (.cells #[.int .i64 n, .slice p len cap] 24) = x := ⟨_, rfl⟩
  have hb1 : Below w.heap.size w w1 := by rw [← hw1]; exact (Below.refl _ _).alloc (Nat.le_refl _) _
  have hs1 : w.heap.size < w1.heap.size := by rw [← hw1, World.size_alloc]; omega
  have q0 : w1.cell? ⟨w.heap.size, 0, none⟩ = some (.int .i64 n) := by rw [← hw1, cell_al, if_pos rfl]; rfl
  have q1 : w1.cell? ⟨w.heap.size, 1, none⟩ = some (.slice p len cap) := by rw [← hw1, cell_al, if_pos rfl]; rfl
  have HSM := hid (small_any n cls (.slice p len cap) w1 (hv.bel hb1))
  obtain ⟨sm, hsm⟩ : ∃ b, smallF cls = b := ⟨_, rfl⟩
  rw [hsm] at HSM
  have HW1 := hid hw1; have HB1 := hid hb1; have HS1 := hid hs1; have HV := hid hv; have HBD := hid hb; have HE := hid hE; have HNN := hid hn
  have HQ := hid (And.intro q0 q1)
  clear hw1 hb1 hs1 hv hb hE hsm hn
  obtain ⟨⟨fa, fe⟩, hfm⟩ : ∃ x, formatM n cls = x := ⟨_, rfl⟩
  have HFM := hid hfm
  clear hfm
  cases sm with
  | false =>
    go_enter Tryd.func3, Tryd.ntmps3
    go_wp2_with (first
      | (rw [HW1.out])
      | (go_at_call 11; refine HSM.out.mono ?_; rintro e w2 ⟨rfl, hb2⟩; have HB2 := hid (HB1.out.trans (hb2.mono HB1.out.size)); clear hb2; have HKN := hid (known_any w2 (HE.out.below HB2.out)))
      | (go_at_call 12; refine HKN.out.mono ?_; rintro e w3 ⟨rfl, hb3⟩; have HB3 := hid (HB2.out.trans (hb3.mono HB2.out.size)); clear hb3))
    go_ret
    exact ⟨rfl, HB3.out⟩
  | true =>
    go_enter Tryd.func3, Tryd.ntmps3
    go_wp2_with (first
      | (rw [HW1.out])
      | (go_at_call 11; refine HSM.out.mono ?_; rintro e w2 ⟨rfl, hb2⟩; have x0 := (hb2.cell (p := ⟨w.heap.size, 0, none⟩) HS1.out).trans q0; have x1 := (hb2.cell (p := ⟨w.heap.size, 1, none⟩) HS1.out).trans q1; clear q0 q1; have HS2 := hid (Nat.lt_of_lt_of_le HS1.out hb2.size); have HB2 := hid (HB1.out.trans (hb2.mono HB1.out.size)); clear hb2; have HF := hid (fmt_is HFM.out w2 (HV.out.bel HB2.out) HBD.out HNN.out (HE.out.below HB2.out)))
      | (go_at_call 13; refine HF.out.mono ?_; rintro e w3 ⟨rfl, hb3⟩; have y0 := (hb3.cell (p := ⟨w.heap.size, 0, none⟩) HS2.out).trans x0; have y1 := (hb3.cell (p := ⟨w.heap.size, 1, none⟩) HS2.out).trans x1; clear x0 x1; have HB3 := hid (HB2.out.trans (hb3.mono HB2.out.size)); clear hb3; have HG := hid (rfmt_is HFM.out w3 (HV.out.bel HB3.out) HBD.out HNN.out (HE.out.below HB3.out)))
      | (go_at_call 14; refine HG.out.mono ?_; rintro e w4 ⟨rfl, hb4⟩; have HB4 := hid (HB3.out.trans (hb4.mono HB3.out.size)); clear hb4; have HKN := hid (known_any w4 (HE.out.below HB4.out)))
      | (go_at_call 12; refine HKN.out.mono ?_; rintro e w5 ⟨rfl, hb5⟩; have HB5 := hid (HB4.out.trans (hb5.mono HB4.out.size)); clear hb5))
    go_ret
    exact ⟨rfl, HB5.out⟩

set_option maxRecDepth 100000 in
set_option maxHeartbeats 2000000 in
theorem parses_walk (s : Bs) (w : World) (hE : Env w) : Calls Tryd.prog 4 #[.string ⟨s.toArray⟩] w fun e w' => e = .returned (.bool true) ∧ Below w.heap.size w w' := by
  have HE := hid hE
  clear hE
  by_cases hl : 3000 < s.length
  · have hd : decide (3000 < (s.length : Int)) = true := by simp; omega
    have HKN := hid (known_any w HE.out)
    go_enter Tryd.func4, Tryd.ntmps4
    go_wp2_with (go_at_call 12; refine HKN.out.mono ?_; rintro e w3 ⟨rfl, hb3⟩; have HB3 := hid hb3; clear hb3)
    go_ret
    exact ⟨rfl, HB3.out⟩
  · have hd : decide (3000 < (s.length : Int)) = false := by simp; omega
    clear hl
    obtain ⟨⟨⟨n, cls⟩, ln, er⟩, hpm⟩ : ∃ x, parseM s = x := ⟨_, rfl⟩
    have HP := hid (prs_is hpm w HE.out)
    have HPM := hid hpm
    clear hpm
    go_enter Tryd.func4, Tryd.ntmps4
    go_wp2_with (first
      | (go_at_call 15; refine HP.out.mono ?_; rintro e w1 ⟨v1, rfl, hl1, hb1⟩; obtain ⟨p1, n1, k1, rfl⟩ := hl1.slc; have HL1 := hid hl1; have HB1 := hid hb1; clear hl1 hb1; (obtain ⟨w2, hw2⟩ : ∃ x, w1.alloc (.cells #[.int .i64 n, .slice p1 n1 k1] 24) = x := ⟨_, rfl⟩); have x0 : w2.cell? ⟨w1.heap.size, 0, none⟩ = some (.int .i64 n) := (by rw [← hw2, cell_al, if_pos rfl]; rfl); have x1 : w2.cell? ⟨w1.heap.size, 1, none⟩ = some (.slice p1 n1 k1) := (by rw [← hw2, cell_al, if_pos rfl]; rfl); have hs2 : w1.heap.size < w2.heap.size := (by rw [← hw2, World.size_alloc]; omega); have hb12 : Below w1.heap.size w1 w2 := (by rw [← hw2]; exact (Below.refl _ _).alloc (Nat.le_refl _) _); have HB2 := hid (HB1.out.trans (hb12.mono HB1.out.size)); have HL2 := hid (show LL (· < w2.heap.size) w2 (.slice p1 n1 k1) cls from HL1.out.keep fun k hk => ⟨Nat.lt_of_lt_of_le hk.2 hb12.size, hb12.block k hk.2⟩); have HS2 := hid hs2; have HW2 := hid hw2; have HR := hid (rprs_is HPM.out w2); clear hw2 hs2 hb12)
      | (rw [HW2.out])
      | (go_at_call 16; refine HR.out.mono ?_; rintro e w3 ⟨v3, rfl, hl3, hb3⟩; obtain ⟨p3, n3, k3, rfl⟩ := hl3.slc; have HB3 := hid (HB2.out.trans (hb3.mono HB2.out.size)); (obtain ⟨w4, hw4⟩ : ∃ x, w3.alloc (.cells #[.int .i64 n, .slice p3 n3 k3] 24) = x := ⟨_, rfl⟩); have hb34 : Below w3.heap.size w3 w4 := (by rw [← hw4]; exact (Below.refl _ _).alloc (Nat.le_refl _) _); have hb24 : Below w2.heap.size w2 w4 := hb3.trans (hb34.mono hb3.size); have y0 : w4.cell? ⟨w1.heap.size, 0, none⟩ = some (.int .i64 n) := (hb24.cell (p := ⟨w1.heap.size, 0, none⟩) HS2.out).trans x0; have y1 : w4.cell? ⟨w1.heap.size, 1, none⟩ = some (.slice p1 n1 k1) := (hb24.cell (p := ⟨w1.heap.size, 1, none⟩) HS2.out).trans x1; have z0 : w4.cell? ⟨w3.heap.size, 0, none⟩ = some (.int .i64 n) := (by rw [← hw4, cell_al, if_pos rfl]; rfl); have z1 : w4.cell? ⟨w3.heap.size, 1, none⟩ = some (.slice p3 n3 k3) := (by rw [← hw4, cell_al, if_pos rfl]; rfl); clear x0 x1; have HB4 := hid (HB3.out.trans (hb34.mono HB3.out.size)); have HEQ := hid (eqformula_any n n cls cls (.slice p1 n1 k1) (.slice p3 n3 k3) w4 (HL2.out.bel hb24) (hl3.keep fun k hk => ⟨Nat.lt_of_lt_of_le hk.2 hb34.size, hb34.block k hk.2⟩)); have HW4 := hid hw4; clear hl3 hb3 hb34 hb24 hw4)
      | (rw [HW4.out])
      | (go_at_call 17; refine HEQ.out.mono ?_; rintro e w5 ⟨rfl, hb5⟩; have hyes : decide (n = n ∧ cls = cls) = true := (by simp); have HB5 := hid (HB4.out.trans (hb5.mono HB4.out.size)); clear hb5; have HKN := hid (known_any w5 (HE.out.below HB5.out)))
      | (go_at_call 12; refine HKN.out.mono ?_; rintro e w6 ⟨rfl, hb6⟩; have HB6 := hid (HB5.out.trans (hb6.mono HB5.out.size)); clear hb6))
    go_ret
    exact ⟨rfl, HB6.out⟩

theorem parses_walkS (s : ByteArray) (w : World) (hsz : s.size ≤ maxLen) (hE : Env w) : Calls Tryd.prog 4 #[.string s] w fun e w' => e = .returned (.bool true) ∧ Below w.heap.size w w' := by
  obtain ⟨⟨l⟩⟩ := s
  exact parses_walk l w hE

end Go.Proofs.YtfllhhgnflpagaaDoor
