/-
  The reference's header.
-/
import Derived.Test.YtfllhhgnflpagaaDoorDmY
import Derived.Test.YtfllhhgnflpagaaDoorDmH
namespace Go.Proofs.YtfllhhgnflpagaaDoor
set_option linter.unusedSimpArgs false
set_option linter.unusedVariables false
open Go.RowKit Go.Shelf
attribute [local go_sem] Oper.semAt_some

def RHeadPost (l : List Bs) (w : World) (e : Ending) (w' : World) : Prop := e = .returned (.tuple #[.int .i64 (headM l).1, .int .i64 (headM l).2.1, .int .i64 (headM l).2.2]) ∧ w' = w
theorem rnum_is {s : Bs} {o : Bool} {v : Int} (h : okDig s = o) (hv : numR s = v) (w : World) (hs : s.length ≤ 65536) : Calls Tryd.prog 32 #[.string ⟨s.toArray⟩] w fun e w' => e = .returned (.tuple #[.int .i64 v, .bool o]) ∧ w' = w := by
  have := rnumber_any s w hs
  unfold RNumPost at this
  rw [h, hv] at this
  exact this
set_option maxRecDepth 100000 in
set_option maxHeartbeats 1000000 in
theorem rheader_len (l : List Bs) (p : Option Addr) (cap : Nat) (w : World) (h : ¬ l.length = 4) : Calls Tryd.prog 31 #[.slice p l.length cap] w (RHeadPost l w) := by
  have HN := hid (show headM l = (0, 0, 4) from headM_len h)
  have h1 : ((l.length : Int) != 4) = true := by rw [bne_iff_ne]; omega
  generalize hL : l.length = L at *
  have HL := hid hL
  clear hL
  go_enter Tryd.func31, Tryd.ntmps31
  go_wp2
  go_ret3
  exact ⟨head_ret HN.out rfl, rfl⟩
set_option maxRecDepth 100000 in
set_option maxHeartbeats 400000 in
theorem rheader_p (a b c d : Bs) (bk off cap : Nat) (w : World) (hlt : bk < w.heap.size) (z0 : w.cell? ⟨bk, off, none⟩ = some (.string ⟨a.toArray⟩)) (z1 : w.cell? ⟨bk, off + 1, none⟩ = some (.string ⟨b.toArray⟩)) (z2 : w.cell? ⟨bk, off + 2, none⟩ = some (.string ⟨c.toArray⟩)) (z3 : w.cell? ⟨bk, off + 3, none⟩ = some (.string ⟨d.toArray⟩)) (h : ¬ a = [112]) : Calls Tryd.prog 31 #[.slice (some ⟨bk, off, none⟩) 4 cap] w (RHeadPost [a, b, c, d] w) := by
  have HN := hid (show headM [a, b, c, d] = (0, 0, 4) from by rw [headM_ref, if_neg (fun e => h e.1)])
  have h1 : (a == [112]) = false := by simp [h]
  go_enter Tryd.func31, Tryd.ntmps31
  go_wp2
  go_ret3
  exact ⟨head_ret HN.out rfl, rfl⟩
set_option maxRecDepth 100000 in
set_option maxHeartbeats 400000 in
theorem rheader_cnf (a b c d : Bs) (bk off cap : Nat) (w : World) (hlt : bk < w.heap.size) (z0 : w.cell? ⟨bk, off, none⟩ = some (.string ⟨a.toArray⟩)) (z1 : w.cell? ⟨bk, off + 1, none⟩ = some (.string ⟨b.toArray⟩)) (z2 : w.cell? ⟨bk, off + 2, none⟩ = some (.string ⟨c.toArray⟩)) (z3 : w.cell? ⟨bk, off + 3, none⟩ = some (.string ⟨d.toArray⟩)) (h0 : a = [112]) (h : ¬ b = [99, 110, 102]) : Calls Tryd.prog 31 #[.slice (some ⟨bk, off, none⟩) 4 cap] w (RHeadPost [a, b, c, d] w) := by
  subst h0
  have HN := hid (show headM [[112], b, c, d] = (0, 0, 4) from by rw [headM_ref, if_neg (fun e => h e.2)])
  have h1 : (b == [99, 110, 102]) = false := by simp [h]
  go_enter Tryd.func31, Tryd.ntmps31
  go_wp2
  go_ret3
  exact ⟨head_ret HN.out rfl, rfl⟩
set_option maxRecDepth 100000 in
set_option maxHeartbeats 400000 in
theorem rheader_ic (a b c d : Bs) (bk off cap : Nat) (w : World) (hlt : bk < w.heap.size) (z0 : w.cell? ⟨bk, off, none⟩ = some (.string ⟨a.toArray⟩)) (z1 : w.cell? ⟨bk, off + 1, none⟩ = some (.string ⟨b.toArray⟩)) (z2 : w.cell? ⟨bk, off + 2, none⟩ = some (.string ⟨c.toArray⟩)) (z3 : w.cell? ⟨bk, off + 3, none⟩ = some (.string ⟨d.toArray⟩)) (hc : c.length ≤ 65536) (hd : d.length ≤ 65536) (h0 : a = [112]) (h1 : b = [99, 110, 102]) (e1 : okDig c = false) : Calls Tryd.prog 31 #[.slice (some ⟨bk, off, none⟩) 4 cap] w (RHeadPost [a, b, c, d] w) := by
  subst h0
  subst h1
  have hn : headM [[112], [99, 110, 102], c, d] = (0, 0, 4) := by
    rw [headM_ref, if_pos ⟨rfl, rfl⟩]
    rw [if_neg (fun e => by rw [e1] at e; simp at e)]
  obtain ⟨oo, e2⟩ : ∃ oo, okDig d = oo := ⟨_, rfl⟩
  obtain ⟨vc, hvc⟩ : ∃ v, numR c = v := ⟨_, rfl⟩
  obtain ⟨vd, hvd⟩ : ∃ v, numR d = v := ⟨_, rfl⟩
  have HC := hid (rnum_is e1 hvc w hc)
  have HD := hid (rnum_is e2 hvd w hd)
  try rw [hvc, hvd] at hn
  have HN := hid hn
  clear hn hvc hvd e1 e2 hc hd
  go_enter Tryd.func31, Tryd.ntmps31
  go_wp2_with (first | (go_at_call 32; (with_reducible refine HC.out.mono ?_); rintro e w1 ⟨rfl, rfl⟩) | (go_at_call 32; (with_reducible refine HD.out.mono ?_); rintro e w1 ⟨rfl, rfl⟩))
  go_ret3
  exact ⟨head_ret HN.out rfl, rfl⟩
set_option maxRecDepth 100000 in
set_option maxHeartbeats 400000 in
theorem rheader_id (a b c d : Bs) (bk off cap : Nat) (w : World) (hlt : bk < w.heap.size) (z0 : w.cell? ⟨bk, off, none⟩ = some (.string ⟨a.toArray⟩)) (z1 : w.cell? ⟨bk, off + 1, none⟩ = some (.string ⟨b.toArray⟩)) (z2 : w.cell? ⟨bk, off + 2, none⟩ = some (.string ⟨c.toArray⟩)) (z3 : w.cell? ⟨bk, off + 3, none⟩ = some (.string ⟨d.toArray⟩)) (hc : c.length ≤ 65536) (hd : d.length ≤ 65536) (h0 : a = [112]) (h1 : b = [99, 110, 102]) (e1 : okDig c = true) (e2 : okDig d = false) : Calls Tryd.prog 31 #[.slice (some ⟨bk, off, none⟩) 4 cap] w (RHeadPost [a, b, c, d] w) := by
  subst h0
  subst h1
  have hn : headM [[112], [99, 110, 102], c, d] = (0, 0, 4) := by
    rw [headM_ref, if_pos ⟨rfl, rfl⟩]
    rw [if_neg (fun e => by rw [e2] at e; simp at e)]
  obtain ⟨vc, hvc⟩ : ∃ v, numR c = v := ⟨_, rfl⟩
  obtain ⟨vd, hvd⟩ : ∃ v, numR d = v := ⟨_, rfl⟩
  have HC := hid (rnum_is e1 hvc w hc)
  have HD := hid (rnum_is e2 hvd w hd)
  try rw [hvc, hvd] at hn
  have HN := hid hn
  clear hn hvc hvd e1 e2 hc hd
  go_enter Tryd.func31, Tryd.ntmps31
  go_wp2_with (first | (go_at_call 32; (with_reducible refine HC.out.mono ?_); rintro e w1 ⟨rfl, rfl⟩) | (go_at_call 32; (with_reducible refine HD.out.mono ?_); rintro e w1 ⟨rfl, rfl⟩))
  go_ret3
  exact ⟨head_ret HN.out rfl, rfl⟩
set_option maxRecDepth 100000 in
set_option maxHeartbeats 400000 in
theorem rheader_nc (a b c d : Bs) (bk off cap : Nat) (w : World) (hlt : bk < w.heap.size) (z0 : w.cell? ⟨bk, off, none⟩ = some (.string ⟨a.toArray⟩)) (z1 : w.cell? ⟨bk, off + 1, none⟩ = some (.string ⟨b.toArray⟩)) (z2 : w.cell? ⟨bk, off + 2, none⟩ = some (.string ⟨c.toArray⟩)) (z3 : w.cell? ⟨bk, off + 3, none⟩ = some (.string ⟨d.toArray⟩)) (hc : c.length ≤ 65536) (hd : d.length ≤ 65536) (h0 : a = [112]) (h1 : b = [99, 110, 102]) (e1 : okDig c = true) (e2 : okDig d = true) (e3 : numR c < 0) : Calls Tryd.prog 31 #[.slice (some ⟨bk, off, none⟩) 4 cap] w (RHeadPost [a, b, c, d] w) := by
  subst h0
  subst h1
  have hn : headM [[112], [99, 110, 102], c, d] = (0, 0, 4) := by
    rw [headM_ref, if_pos ⟨rfl, rfl⟩]
    rw [if_neg (fun e => by omega)]
  obtain ⟨vc, hvc⟩ : ∃ v, numR c = v := ⟨_, rfl⟩
  obtain ⟨vd, hvd⟩ : ∃ v, numR d = v := ⟨_, rfl⟩
  have HC := hid (rnum_is e1 hvc w hc)
  have HD := hid (rnum_is e2 hvd w hd)
  try rw [hvc, hvd] at hn
  have q1 : decide (vc < 0) = true := by simp; omega
  have HN := hid hn
  clear hn hvc hvd e1 e2 hc hd
  go_enter Tryd.func31, Tryd.ntmps31
  go_wp2_with (first | (go_at_call 32; (with_reducible refine HC.out.mono ?_); rintro e w1 ⟨rfl, rfl⟩) | (go_at_call 32; (with_reducible refine HD.out.mono ?_); rintro e w1 ⟨rfl, rfl⟩))
  go_ret3
  exact ⟨head_ret HN.out rfl, rfl⟩
set_option maxRecDepth 100000 in
set_option maxHeartbeats 400000 in
theorem rheader_nd (a b c d : Bs) (bk off cap : Nat) (w : World) (hlt : bk < w.heap.size) (z0 : w.cell? ⟨bk, off, none⟩ = some (.string ⟨a.toArray⟩)) (z1 : w.cell? ⟨bk, off + 1, none⟩ = some (.string ⟨b.toArray⟩)) (z2 : w.cell? ⟨bk, off + 2, none⟩ = some (.string ⟨c.toArray⟩)) (z3 : w.cell? ⟨bk, off + 3, none⟩ = some (.string ⟨d.toArray⟩)) (hc : c.length ≤ 65536) (hd : d.length ≤ 65536) (h0 : a = [112]) (h1 : b = [99, 110, 102]) (e1 : okDig c = true) (e2 : okDig d = true) (e3 : ¬ numR c < 0) (e4 : numR d < 0) : Calls Tryd.prog 31 #[.slice (some ⟨bk, off, none⟩) 4 cap] w (RHeadPost [a, b, c, d] w) := by
  subst h0
  subst h1
  have hn : headM [[112], [99, 110, 102], c, d] = (0, 0, 4) := by
    rw [headM_ref, if_pos ⟨rfl, rfl⟩]
    rw [if_neg (fun e => by omega)]
  obtain ⟨vc, hvc⟩ : ∃ v, numR c = v := ⟨_, rfl⟩
  obtain ⟨vd, hvd⟩ : ∃ v, numR d = v := ⟨_, rfl⟩
  have HC := hid (rnum_is e1 hvc w hc)
  have HD := hid (rnum_is e2 hvd w hd)
  try rw [hvc, hvd] at hn
  have q1 : decide (vc < 0) = false := by simp; omega
  have q2 : decide (vd < 0) = true := by simp; omega
  have HN := hid hn
  clear hn hvc hvd e1 e2 hc hd
  go_enter Tryd.func31, Tryd.ntmps31
  go_wp2_with (first | (go_at_call 32; (with_reducible refine HC.out.mono ?_); rintro e w1 ⟨rfl, rfl⟩) | (go_at_call 32; (with_reducible refine HD.out.mono ?_); rintro e w1 ⟨rfl, rfl⟩))
  go_ret3
  exact ⟨head_ret HN.out rfl, rfl⟩
set_option maxRecDepth 100000 in
set_option maxHeartbeats 400000 in
theorem rheader_bc (a b c d : Bs) (bk off cap : Nat) (w : World) (hlt : bk < w.heap.size) (z0 : w.cell? ⟨bk, off, none⟩ = some (.string ⟨a.toArray⟩)) (z1 : w.cell? ⟨bk, off + 1, none⟩ = some (.string ⟨b.toArray⟩)) (z2 : w.cell? ⟨bk, off + 2, none⟩ = some (.string ⟨c.toArray⟩)) (z3 : w.cell? ⟨bk, off + 3, none⟩ = some (.string ⟨d.toArray⟩)) (hc : c.length ≤ 65536) (hd : d.length ≤ 65536) (h0 : a = [112]) (h1 : b = [99, 110, 102]) (e1 : okDig c = true) (e2 : okDig d = true) (e3 : ¬ numR c < 0) (e4 : ¬ numR d < 0) (e5 : 1048576 < numR c) : Calls Tryd.prog 31 #[.slice (some ⟨bk, off, none⟩) 4 cap] w (RHeadPost [a, b, c, d] w) := by
  subst h0
  subst h1
  have hn : headM [[112], [99, 110, 102], c, d] = (0, 0, 3) := by
    rw [headM_ref, if_pos ⟨rfl, rfl⟩]
    rw [if_pos ⟨e1, e2, by omega, by omega⟩, if_pos e5]
  obtain ⟨vc, hvc⟩ : ∃ v, numR c = v := ⟨_, rfl⟩
  obtain ⟨vd, hvd⟩ : ∃ v, numR d = v := ⟨_, rfl⟩
  have HC := hid (rnum_is e1 hvc w hc)
  have HD := hid (rnum_is e2 hvd w hd)
  try rw [hvc, hvd] at hn
  have q1 : decide (vc < 0) = false := by simp; omega
  have q2 : decide (vd < 0) = false := by simp; omega
  have q3 : decide (1048576 < vc) = true := by simp; omega
  have HN := hid hn
  clear hn hvc hvd e1 e2 hc hd
  go_enter Tryd.func31, Tryd.ntmps31
  go_wp2_with (first | (go_at_call 32; (with_reducible refine HC.out.mono ?_); rintro e w1 ⟨rfl, rfl⟩) | (go_at_call 32; (with_reducible refine HD.out.mono ?_); rintro e w1 ⟨rfl, rfl⟩))
  go_ret3
  exact ⟨head_ret HN.out rfl, rfl⟩
set_option maxRecDepth 100000 in
set_option maxHeartbeats 400000 in
theorem rheader_bd (a b c d : Bs) (bk off cap : Nat) (w : World) (hlt : bk < w.heap.size) (z0 : w.cell? ⟨bk, off, none⟩ = some (.string ⟨a.toArray⟩)) (z1 : w.cell? ⟨bk, off + 1, none⟩ = some (.string ⟨b.toArray⟩)) (z2 : w.cell? ⟨bk, off + 2, none⟩ = some (.string ⟨c.toArray⟩)) (z3 : w.cell? ⟨bk, off + 3, none⟩ = some (.string ⟨d.toArray⟩)) (hc : c.length ≤ 65536) (hd : d.length ≤ 65536) (h0 : a = [112]) (h1 : b = [99, 110, 102]) (e1 : okDig c = true) (e2 : okDig d = true) (e3 : ¬ numR c < 0) (e4 : ¬ numR d < 0) (e5 : ¬ 1048576 < numR c) (e6 : 1048576 < numR d) : Calls Tryd.prog 31 #[.slice (some ⟨bk, off, none⟩) 4 cap] w (RHeadPost [a, b, c, d] w) := by
  subst h0
  subst h1
  have hn : headM [[112], [99, 110, 102], c, d] = (0, 0, 5) := by
    rw [headM_ref, if_pos ⟨rfl, rfl⟩]
    rw [if_pos ⟨e1, e2, by omega, by omega⟩, if_neg e5, if_pos e6]
  obtain ⟨vc, hvc⟩ : ∃ v, numR c = v := ⟨_, rfl⟩
  obtain ⟨vd, hvd⟩ : ∃ v, numR d = v := ⟨_, rfl⟩
  have HC := hid (rnum_is e1 hvc w hc)
  have HD := hid (rnum_is e2 hvd w hd)
  try rw [hvc, hvd] at hn
  have q1 : decide (vc < 0) = false := by simp; omega
  have q2 : decide (vd < 0) = false := by simp; omega
  have q3 : decide (1048576 < vc) = false := by simp; omega
  have q4 : decide (1048576 < vd) = true := by simp; omega
  have HN := hid hn
  clear hn hvc hvd e1 e2 hc hd
  go_enter Tryd.func31, Tryd.ntmps31
  go_wp2_with (first | (go_at_call 32; (with_reducible refine HC.out.mono ?_); rintro e w1 ⟨rfl, rfl⟩) | (go_at_call 32; (with_reducible refine HD.out.mono ?_); rintro e w1 ⟨rfl, rfl⟩))
  go_ret3
  exact ⟨head_ret HN.out rfl, rfl⟩
set_option maxRecDepth 100000 in
set_option maxHeartbeats 400000 in
theorem rheader_ok (a b c d : Bs) (bk off cap : Nat) (w : World) (hlt : bk < w.heap.size) (z0 : w.cell? ⟨bk, off, none⟩ = some (.string ⟨a.toArray⟩)) (z1 : w.cell? ⟨bk, off + 1, none⟩ = some (.string ⟨b.toArray⟩)) (z2 : w.cell? ⟨bk, off + 2, none⟩ = some (.string ⟨c.toArray⟩)) (z3 : w.cell? ⟨bk, off + 3, none⟩ = some (.string ⟨d.toArray⟩)) (hc : c.length ≤ 65536) (hd : d.length ≤ 65536) (h0 : a = [112]) (h1 : b = [99, 110, 102]) (e1 : okDig c = true) (e2 : okDig d = true) (e3 : ¬ numR c < 0) (e4 : ¬ numR d < 0) (e5 : ¬ 1048576 < numR c) (e6 : ¬ 1048576 < numR d) : Calls Tryd.prog 31 #[.slice (some ⟨bk, off, none⟩) 4 cap] w (RHeadPost [a, b, c, d] w) := by
  subst h0
  subst h1
  have hn : headM [[112], [99, 110, 102], c, d] = (numR c, numR d, 0) := by
    rw [headM_ref, if_pos ⟨rfl, rfl⟩]
    rw [if_pos ⟨e1, e2, by omega, by omega⟩, if_neg e5, if_neg e6]
  obtain ⟨vc, hvc⟩ : ∃ v, numR c = v := ⟨_, rfl⟩
  obtain ⟨vd, hvd⟩ : ∃ v, numR d = v := ⟨_, rfl⟩
  have HC := hid (rnum_is e1 hvc w hc)
  have HD := hid (rnum_is e2 hvd w hd)
  try rw [hvc, hvd] at hn
  have q1 : decide (vc < 0) = false := by simp; omega
  have q2 : decide (vd < 0) = false := by simp; omega
  have q3 : decide (1048576 < vc) = false := by simp; omega
  have q4 : decide (1048576 < vd) = false := by simp; omega
  have HN := hid hn
  clear hn hvc hvd e1 e2 hc hd
  go_enter Tryd.func31, Tryd.ntmps31
  go_wp2_with (first | (go_at_call 32; (with_reducible refine HC.out.mono ?_); rintro e w1 ⟨rfl, rfl⟩) | (go_at_call 32; (with_reducible refine HD.out.mono ?_); rintro e w1 ⟨rfl, rfl⟩))
  go_ret3
  exact ⟨head_ret HN.out rfl, rfl⟩
/-- The reference's header. -/
theorem rheader_any (l : List Bs) (v : Value) (w : World) (hv : Strs (· < w.heap.size) w v l) (hl : ∀ x ∈ l, x.length ≤ 65536) : Calls Tryd.prog 31 #[v] w (RHeadPost l w) := by
  obtain ⟨p, cap, rfl, h1, h2, h3, hr⟩ := hv.op
  by_cases h4 : l.length = 4
  · match l, h4 with
    | [a, b, c, d], _ =>
      obtain ⟨bk, off, rfl, hR, hx⟩ := hr.at 0 (by simp)
      have z0 := hx 0 (by simp)
      have z1 := hx 1 (by simp)
      have z2 := hx 2 (by simp)
      have z3 := hx 3 (by simp)
      have hc : c.length ≤ 65536 := hl c (by simp)
      have hd : d.length ≤ 65536 := hl d (by simp)
      by_cases ha : a = [112]
      · by_cases hb : b = [99, 110, 102]
        · cases e1 : okDig c with
          | false => exact rheader_ic a b c d bk off cap w hR z0 z1 z2 z3 hc hd ha hb e1
          | true =>
            cases e2 : okDig d with
            | false => exact rheader_id a b c d bk off cap w hR z0 z1 z2 z3 hc hd ha hb e1 e2
            | true =>
              by_cases e3 : numR c < 0
              · exact rheader_nc a b c d bk off cap w hR z0 z1 z2 z3 hc hd ha hb e1 e2 e3
              by_cases e4 : numR d < 0
              · exact rheader_nd a b c d bk off cap w hR z0 z1 z2 z3 hc hd ha hb e1 e2 e3 e4
              by_cases e5 : 1048576 < numR c
              · exact rheader_bc a b c d bk off cap w hR z0 z1 z2 z3 hc hd ha hb e1 e2 e3 e4 e5
              by_cases e6 : 1048576 < numR d
              · exact rheader_bd a b c d bk off cap w hR z0 z1 z2 z3 hc hd ha hb e1 e2 e3 e4 e5 e6
              · exact rheader_ok a b c d bk off cap w hR z0 z1 z2 z3 hc hd ha hb e1 e2 e3 e4 e5 e6
        · exact rheader_cnf a b c d bk off cap w hR z0 z1 z2 z3 ha hb
      · exact rheader_p a b c d bk off cap w hR z0 z1 z2 z3 ha
  · exact rheader_len l p cap w h4

end Go.Proofs.YtfllhhgnflpagaaDoor
