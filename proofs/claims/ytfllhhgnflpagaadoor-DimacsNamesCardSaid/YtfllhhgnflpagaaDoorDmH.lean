/-
  Package dimacs: the header.
-/
import Derived.Test.YtfllhhgnflpagaaDoorDmN
import Derived.Test.YtfllhhgnflpagaaDoorSL
namespace Go.Proofs.YtfllhhgnflpagaaDoor
set_option linter.unusedSimpArgs false
set_option linter.unusedVariables false
open Go.RowKit Go.Shelf
attribute [local go_sem] Oper.semAt_some

theorem num_is {s : Bs} {v : Int} (h : numM s = some v) (w : World) (hs : s.length ≤ 65536) (hE : Env w) : Calls Tryd.prog 28 #[.string ⟨s.toArray⟩] w fun e w' => e = .returned (.tuple #[.int .i64 v, .int .i64 0]) ∧ Below w.heap.size w w' := by
  have := number_any s w hs hE
  unfold NumPost at this
  rw [h] at this
  exact this
theorem num_not {s : Bs} (h : numM s = none) (w : World) (hs : s.length ≤ 65536) (hE : Env w) : Calls Tryd.prog 28 #[.string ⟨s.toArray⟩] w fun e w' => e = .returned (.tuple #[.int .i64 0, .int .i64 4]) ∧ Below w.heap.size w w' := by
  have := number_any s w hs hE
  unfold NumPost at this
  rw [h] at this
  exact this
theorem numM_cons {s : Bs} {v : Int} (h : numM s = some v) : ∃ c t, s = c :: t := by
  cases s with
  | nil => simp [numM, okDig, digitsOf] at h
  | cons c t => exact ⟨c, t, rfl⟩
def HeadPost (l : List Bs) (w : World) (e : Ending) (w' : World) : Prop := e = .returned (.tuple #[.int .i64 (headM l).1, .int .i64 (headM l).2.1, .int .i64 (headM l).2.2]) ∧ Below w.heap.size w w'
theorem head_ret {l : List Bs} {a b c : Int} (h : headM l = (a, b, c)) {e : Ending} (he : e = .returned (.tuple #[.int .i64 a, .int .i64 b, .int .i64 c])) : e = .returned (.tuple #[.int .i64 (headM l).1, .int .i64 (headM l).2.1, .int .i64 (headM l).2.2]) := by rw [h]; exact he

set_option maxRecDepth 100000 in
set_option maxHeartbeats 1000000 in
theorem header_len (l : List Bs) (p : Option Addr) (cap : Nat) (w : World) (h : ¬ l.length = 4) : Calls Tryd.prog 27 #[.slice p l.length cap] w (HeadPost l w) := by
  have HN := hid (show headM l = (0, 0, 4) from by unfold headM; rw [if_neg (fun e => h e.1)])
  have h1 : ((l.length : Int) != 4) = true := by rw [bne_iff_ne]; omega
  generalize hL : l.length = L at *
  have HL := hid hL
  clear hL
  go_enter Tryd.func27, Tryd.ntmps27
  go_wp2
  go_ret3
  exact ⟨head_ret HN.out rfl, Below.refl _ _⟩

set_option maxRecDepth 100000 in
set_option maxHeartbeats 400000 in
theorem header_p (a b c d : Bs) (bk off cap : Nat) (w : World) (hlt : bk < w.heap.size) (z0 : w.cell? ⟨bk, off, none⟩ = some (.string ⟨a.toArray⟩)) (z1 : w.cell? ⟨bk, off + 1, none⟩ = some (.string ⟨b.toArray⟩)) (z2 : w.cell? ⟨bk, off + 2, none⟩ = some (.string ⟨c.toArray⟩)) (z3 : w.cell? ⟨bk, off + 3, none⟩ = some (.string ⟨d.toArray⟩)) (h : ¬ a = [112]) : Calls Tryd.prog 27 #[.slice (some ⟨bk, off, none⟩) 4 cap] w (HeadPost [a, b, c, d] w) := by
  have HN := hid (show headM [a, b, c, d] = (0, 0, 4) from by unfold headM; rw [if_neg (fun e => h (by simpa using e.2.1))])
  have h1 : (a == [112]) = false := by simp [h]
  go_enter Tryd.func27, Tryd.ntmps27
  go_wp2
  go_ret3
  exact ⟨head_ret HN.out rfl, Below.refl _ _⟩

set_option maxRecDepth 100000 in
set_option maxHeartbeats 400000 in
theorem header_cnf (a b c d : Bs) (bk off cap : Nat) (w : World) (hlt : bk < w.heap.size) (z0 : w.cell? ⟨bk, off, none⟩ = some (.string ⟨a.toArray⟩)) (z1 : w.cell? ⟨bk, off + 1, none⟩ = some (.string ⟨b.toArray⟩)) (z2 : w.cell? ⟨bk, off + 2, none⟩ = some (.string ⟨c.toArray⟩)) (z3 : w.cell? ⟨bk, off + 3, none⟩ = some (.string ⟨d.toArray⟩)) (h0 : a = [112]) (h : ¬ b = [99, 110, 102]) : Calls Tryd.prog 27 #[.slice (some ⟨bk, off, none⟩) 4 cap] w (HeadPost [a, b, c, d] w) := by
  subst h0
  have HN := hid (show headM [[112], b, c, d] = (0, 0, 4) from by unfold headM; rw [if_neg (fun e => h (by simpa using e.2.2))])
  have h1 : (b == [99, 110, 102]) = false := by simp [h]
  go_enter Tryd.func27, Tryd.ntmps27
  go_wp2
  go_ret3
  exact ⟨head_ret HN.out rfl, Below.refl _ _⟩

set_option maxRecDepth 100000 in
set_option maxHeartbeats 400000 in
theorem header_v (a b c d : Bs) (bk off cap : Nat) (w : World) (hlt : bk < w.heap.size) (z0 : w.cell? ⟨bk, off, none⟩ = some (.string ⟨a.toArray⟩)) (z1 : w.cell? ⟨bk, off + 1, none⟩ = some (.string ⟨b.toArray⟩)) (z2 : w.cell? ⟨bk, off + 2, none⟩ = some (.string ⟨c.toArray⟩)) (z3 : w.cell? ⟨bk, off + 3, none⟩ = some (.string ⟨d.toArray⟩)) (h0 : a = [112]) (h1 : b = [99, 110, 102]) (hc : c.length ≤ 65536) (hd : d.length ≤ 65536) (hE : Env w) (h : numM c = none) : Calls Tryd.prog 27 #[.slice (some ⟨bk, off, none⟩) 4 cap] w (HeadPost [a, b, c, d] w) := by
  subst h0
  subst h1
  have HN := hid (show headM [[112], [99, 110, 102], c, d] = (0, 0, 4) from by unfold headM; simp [h])
  have HCC := hid (num_not h w hc hE)
  have HLT := hid hlt
  have HE := hid hE
  clear h hc hd hE hlt
  go_enter Tryd.func27, Tryd.ntmps27
  go_wp2_with (first | (go_at_call 28; (with_reducible refine HCC.out.mono ?_); rintro e w1 ⟨rfl, hb1⟩; have y2 := (hb1.cell (p := ⟨bk, off + 2, none⟩) HLT.out).trans z2; have y3 := (hb1.cell (p := ⟨bk, off + 3, none⟩) HLT.out).trans z3; have HB1 := hid hb1; clear z2 z3 hb1))
  go_ret3
  exact ⟨head_ret HN.out rfl, HB1.out⟩

set_option maxRecDepth 100000 in
set_option maxHeartbeats 400000 in
theorem header_c (a b c d : Bs) (bk off cap : Nat) (w : World) (hlt : bk < w.heap.size) (z0 : w.cell? ⟨bk, off, none⟩ = some (.string ⟨a.toArray⟩)) (z1 : w.cell? ⟨bk, off + 1, none⟩ = some (.string ⟨b.toArray⟩)) (z2 : w.cell? ⟨bk, off + 2, none⟩ = some (.string ⟨c.toArray⟩)) (z3 : w.cell? ⟨bk, off + 3, none⟩ = some (.string ⟨d.toArray⟩)) (h0 : a = [112]) (h1 : b = [99, 110, 102]) (hc : c.length ≤ 65536) (hd : d.length ≤ 65536) (hE : Env w) (v : Int) (hv : numM c = some v) (h : numM d = none) : Calls Tryd.prog 27 #[.slice (some ⟨bk, off, none⟩) 4 cap] w (HeadPost [a, b, c, d] w) := by
  subst h0
  subst h1
  have HN := hid (show headM [[112], [99, 110, 102], c, d] = (0, 0, 4) from by unfold headM; simp [h, hv])
  have HCC := hid (num_is hv w hc hE)
  have HCD := hid (fun w' hE' => num_not h w' hd hE')
  have HLT := hid hlt
  have HE := hid hE
  clear h hc hd hE hlt hv
  go_enter Tryd.func27, Tryd.ntmps27
  go_wp2_with (first | (go_at_call 28; (with_reducible refine HCC.out.mono ?_); rintro e w1 ⟨rfl, hb1⟩; have y2 := (hb1.cell (p := ⟨bk, off + 2, none⟩) HLT.out).trans z2; have y3 := (hb1.cell (p := ⟨bk, off + 3, none⟩) HLT.out).trans z3; have HB1 := hid hb1; clear z2 z3 hb1) | (go_at_call 28; (with_reducible refine (HCD.out _ (HE.out.below HB1.out)).mono ?_); rintro e w2 ⟨rfl, hb2⟩; have x2 := (hb2.cell (p := ⟨bk, off + 2, none⟩) (Nat.lt_of_lt_of_le HLT.out HB1.out.size)).trans y2; have x3 := (hb2.cell (p := ⟨bk, off + 3, none⟩) (Nat.lt_of_lt_of_le HLT.out HB1.out.size)).trans y3; have HB2 := hid (below_tr HB1.out hb2); clear y2 y3 hb2))
  go_ret3
  exact ⟨head_ret HN.out rfl, HB2.out⟩

set_option maxRecDepth 100000 in
set_option maxHeartbeats 400000 in
theorem header_nv (a b c d : Bs) (bk off cap : Nat) (w : World) (hlt : bk < w.heap.size) (z0 : w.cell? ⟨bk, off, none⟩ = some (.string ⟨a.toArray⟩)) (z1 : w.cell? ⟨bk, off + 1, none⟩ = some (.string ⟨b.toArray⟩)) (z2 : w.cell? ⟨bk, off + 2, none⟩ = some (.string ⟨c.toArray⟩)) (z3 : w.cell? ⟨bk, off + 3, none⟩ = some (.string ⟨d.toArray⟩)) (h0 : a = [112]) (h1 : b = [99, 110, 102]) (hc : c.length ≤ 65536) (hd : d.length ≤ 65536) (hE : Env w) (v k : Int) (hv : numM c = some v) (hk : numM d = some k) (gc : c.head? = some 45) : Calls Tryd.prog 27 #[.slice (some ⟨bk, off, none⟩) 4 cap] w (HeadPost [a, b, c, d] w) := by
  subst h0
  subst h1
  have HN := hid (show headM [[112], [99, 110, 102], c, d] = (0, 0, 4) from by unfold headM; simp [hk, hv, gc])
  have HCC := hid (num_is hv w hc hE)
  have HCD := hid (fun w' hE' => num_is hk w' hd hE')
  obtain ⟨c0, ct, rfl⟩ := numM_cons hv
  obtain ⟨d0, dt, rfl⟩ := numM_cons hk
  have HLT := hid hlt
  have HE := hid hE
  have hc0 : ∀ h, ((⟨(c0 :: ct).toArray⟩ : ByteArray)[0]'h).toNat = c0.toNat := fun _ => rfl
  have hd0 : ∀ h, ((⟨(d0 :: dt).toArray⟩ : ByteArray)[0]'h).toNat = d0.toNat := fun _ => rfl
  have ec : (((c0.toNat : Int)) == 45) = true := by (have h9 : c0 = 45 := (by simpa using gc); subst h9; rfl)
  clear hc hd hE hlt hv hk
  go_enter Tryd.func27, Tryd.ntmps27
  go_wp2_with (first | (go_at_call 28; (with_reducible refine HCC.out.mono ?_); rintro e w1 ⟨rfl, hb1⟩; have y2 := (hb1.cell (p := ⟨bk, off + 2, none⟩) HLT.out).trans z2; have y3 := (hb1.cell (p := ⟨bk, off + 3, none⟩) HLT.out).trans z3; have HB1 := hid hb1; clear z2 z3 hb1) | (go_at_call 28; (with_reducible refine (HCD.out _ (HE.out.below HB1.out)).mono ?_); rintro e w2 ⟨rfl, hb2⟩; have x2 := (hb2.cell (p := ⟨bk, off + 2, none⟩) (Nat.lt_of_lt_of_le HLT.out HB1.out.size)).trans y2; have x3 := (hb2.cell (p := ⟨bk, off + 3, none⟩) (Nat.lt_of_lt_of_le HLT.out HB1.out.size)).trans y3; have HB2 := hid (below_tr HB1.out hb2); clear y2 y3 hb2))
  go_ret3
  exact ⟨head_ret HN.out rfl, HB2.out⟩

set_option maxRecDepth 100000 in
set_option maxHeartbeats 400000 in
theorem header_nc (a b c d : Bs) (bk off cap : Nat) (w : World) (hlt : bk < w.heap.size) (z0 : w.cell? ⟨bk, off, none⟩ = some (.string ⟨a.toArray⟩)) (z1 : w.cell? ⟨bk, off + 1, none⟩ = some (.string ⟨b.toArray⟩)) (z2 : w.cell? ⟨bk, off + 2, none⟩ = some (.string ⟨c.toArray⟩)) (z3 : w.cell? ⟨bk, off + 3, none⟩ = some (.string ⟨d.toArray⟩)) (h0 : a = [112]) (h1 : b = [99, 110, 102]) (hc : c.length ≤ 65536) (hd : d.length ≤ 65536) (hE : Env w) (v k : Int) (hv : numM c = some v) (hk : numM d = some k) (gc : ¬ c.head? = some 45) (gd : d.head? = some 45) : Calls Tryd.prog 27 #[.slice (some ⟨bk, off, none⟩) 4 cap] w (HeadPost [a, b, c, d] w) := by
  subst h0
  subst h1
  have HN := hid (show headM [[112], [99, 110, 102], c, d] = (0, 0, 4) from by unfold headM; simp [hk, hv, gd])
  have HCC := hid (num_is hv w hc hE)
  have HCD := hid (fun w' hE' => num_is hk w' hd hE')
  obtain ⟨c0, ct, rfl⟩ := numM_cons hv
  obtain ⟨d0, dt, rfl⟩ := numM_cons hk
  have HLT := hid hlt
  have HE := hid hE
  have hc0 : ∀ h, ((⟨(c0 :: ct).toArray⟩ : ByteArray)[0]'h).toNat = c0.toNat := fun _ => rfl
  have hd0 : ∀ h, ((⟨(d0 :: dt).toArray⟩ : ByteArray)[0]'h).toNat = d0.toNat := fun _ => rfl
  have ec : (((c0.toNat : Int)) == 45) = false := by (rw [beq_eq_false_iff_ne]; intro e; apply gc; have h9 : c0 = 45 := UInt8.toNat_inj.1 (show c0.toNat = 45 by omega); subst h9; rfl)
  have ed : (((d0.toNat : Int)) == 45) = true := by (have h9 : d0 = 45 := (by simpa using gd); subst h9; rfl)
  clear hc hd hE hlt hv hk
  go_enter Tryd.func27, Tryd.ntmps27
  go_wp2_with (first | (go_at_call 28; (with_reducible refine HCC.out.mono ?_); rintro e w1 ⟨rfl, hb1⟩; have y2 := (hb1.cell (p := ⟨bk, off + 2, none⟩) HLT.out).trans z2; have y3 := (hb1.cell (p := ⟨bk, off + 3, none⟩) HLT.out).trans z3; have HB1 := hid hb1; clear z2 z3 hb1) | (go_at_call 28; (with_reducible refine (HCD.out _ (HE.out.below HB1.out)).mono ?_); rintro e w2 ⟨rfl, hb2⟩; have x2 := (hb2.cell (p := ⟨bk, off + 2, none⟩) (Nat.lt_of_lt_of_le HLT.out HB1.out.size)).trans y2; have x3 := (hb2.cell (p := ⟨bk, off + 3, none⟩) (Nat.lt_of_lt_of_le HLT.out HB1.out.size)).trans y3; have HB2 := hid (below_tr HB1.out hb2); clear y2 y3 hb2))
  go_ret3
  exact ⟨head_ret HN.out rfl, HB2.out⟩

set_option maxRecDepth 100000 in
set_option maxHeartbeats 400000 in
theorem header_gv (a b c d : Bs) (bk off cap : Nat) (w : World) (hlt : bk < w.heap.size) (z0 : w.cell? ⟨bk, off, none⟩ = some (.string ⟨a.toArray⟩)) (z1 : w.cell? ⟨bk, off + 1, none⟩ = some (.string ⟨b.toArray⟩)) (z2 : w.cell? ⟨bk, off + 2, none⟩ = some (.string ⟨c.toArray⟩)) (z3 : w.cell? ⟨bk, off + 3, none⟩ = some (.string ⟨d.toArray⟩)) (h0 : a = [112]) (h1 : b = [99, 110, 102]) (hc : c.length ≤ 65536) (hd : d.length ≤ 65536) (hE : Env w) (v k : Int) (hv : numM c = some v) (hk : numM d = some k) (gc : ¬ c.head? = some 45) (gd : ¬ d.head? = some 45) (h5 : 1048576 < v) : Calls Tryd.prog 27 #[.slice (some ⟨bk, off, none⟩) 4 cap] w (HeadPost [a, b, c, d] w) := by
  subst h0
  subst h1
  have HN := hid (show headM [[112], [99, 110, 102], c, d] = (0, 0, 3) from by unfold headM; simp [hk, hv, gc, gd, h5])
  have HCC := hid (num_is hv w hc hE)
  have HCD := hid (fun w' hE' => num_is hk w' hd hE')
  obtain ⟨c0, ct, rfl⟩ := numM_cons hv
  obtain ⟨d0, dt, rfl⟩ := numM_cons hk
  have HLT := hid hlt
  have HE := hid hE
  have hc0 : ∀ h, ((⟨(c0 :: ct).toArray⟩ : ByteArray)[0]'h).toNat = c0.toNat := fun _ => rfl
  have hd0 : ∀ h, ((⟨(d0 :: dt).toArray⟩ : ByteArray)[0]'h).toNat = d0.toNat := fun _ => rfl
  have ec : (((c0.toNat : Int)) == 45) = false := by (rw [beq_eq_false_iff_ne]; intro e; apply gc; have h9 : c0 = 45 := UInt8.toNat_inj.1 (show c0.toNat = 45 by omega); subst h9; rfl)
  have ed : (((d0.toNat : Int)) == 45) = false := by (rw [beq_eq_false_iff_ne]; intro e; apply gd; have h9 : d0 = 45 := UInt8.toNat_inj.1 (show d0.toNat = 45 by omega); subst h9; rfl)
  have e5 : decide (1048576 < v) = true := by simp [h5]
  clear hc hd hE hlt hv hk
  go_enter Tryd.func27, Tryd.ntmps27
  go_wp2_with (first | (go_at_call 28; (with_reducible refine HCC.out.mono ?_); rintro e w1 ⟨rfl, hb1⟩; have y2 := (hb1.cell (p := ⟨bk, off + 2, none⟩) HLT.out).trans z2; have y3 := (hb1.cell (p := ⟨bk, off + 3, none⟩) HLT.out).trans z3; have HB1 := hid hb1; clear z2 z3 hb1) | (go_at_call 28; (with_reducible refine (HCD.out _ (HE.out.below HB1.out)).mono ?_); rintro e w2 ⟨rfl, hb2⟩; have x2 := (hb2.cell (p := ⟨bk, off + 2, none⟩) (Nat.lt_of_lt_of_le HLT.out HB1.out.size)).trans y2; have x3 := (hb2.cell (p := ⟨bk, off + 3, none⟩) (Nat.lt_of_lt_of_le HLT.out HB1.out.size)).trans y3; have HB2 := hid (below_tr HB1.out hb2); clear y2 y3 hb2))
  go_ret3
  exact ⟨head_ret HN.out rfl, HB2.out⟩

set_option maxRecDepth 100000 in
set_option maxHeartbeats 400000 in
theorem header_gc (a b c d : Bs) (bk off cap : Nat) (w : World) (hlt : bk < w.heap.size) (z0 : w.cell? ⟨bk, off, none⟩ = some (.string ⟨a.toArray⟩)) (z1 : w.cell? ⟨bk, off + 1, none⟩ = some (.string ⟨b.toArray⟩)) (z2 : w.cell? ⟨bk, off + 2, none⟩ = some (.string ⟨c.toArray⟩)) (z3 : w.cell? ⟨bk, off + 3, none⟩ = some (.string ⟨d.toArray⟩)) (h0 : a = [112]) (h1 : b = [99, 110, 102]) (hc : c.length ≤ 65536) (hd : d.length ≤ 65536) (hE : Env w) (v k : Int) (hv : numM c = some v) (hk : numM d = some k) (gc : ¬ c.head? = some 45) (gd : ¬ d.head? = some 45) (h5 : ¬ 1048576 < v) (h6 : 1048576 < k) : Calls Tryd.prog 27 #[.slice (some ⟨bk, off, none⟩) 4 cap] w (HeadPost [a, b, c, d] w) := by
  subst h0
  subst h1
  have HN := hid (show headM [[112], [99, 110, 102], c, d] = (0, 0, 5) from by unfold headM; simp [hk, hv, gc, gd, h5, h6])
  have HCC := hid (num_is hv w hc hE)
  have HCD := hid (fun w' hE' => num_is hk w' hd hE')
  obtain ⟨c0, ct, rfl⟩ := numM_cons hv
  obtain ⟨d0, dt, rfl⟩ := numM_cons hk
  have HLT := hid hlt
  have HE := hid hE
  have hc0 : ∀ h, ((⟨(c0 :: ct).toArray⟩ : ByteArray)[0]'h).toNat = c0.toNat := fun _ => rfl
  have hd0 : ∀ h, ((⟨(d0 :: dt).toArray⟩ : ByteArray)[0]'h).toNat = d0.toNat := fun _ => rfl
  have ec : (((c0.toNat : Int)) == 45) = false := by (rw [beq_eq_false_iff_ne]; intro e; apply gc; have h9 : c0 = 45 := UInt8.toNat_inj.1 (show c0.toNat = 45 by omega); subst h9; rfl)
  have ed : (((d0.toNat : Int)) == 45) = false := by (rw [beq_eq_false_iff_ne]; intro e; apply gd; have h9 : d0 = 45 := UInt8.toNat_inj.1 (show d0.toNat = 45 by omega); subst h9; rfl)
  have e5 : decide (1048576 < v) = false := by simp; omega
  have e6 : decide (1048576 < k) = true := by simp [h6]
  clear hc hd hE hlt hv hk
  go_enter Tryd.func27, Tryd.ntmps27
  go_wp2_with (first | (go_at_call 28; (with_reducible refine HCC.out.mono ?_); rintro e w1 ⟨rfl, hb1⟩; have y2 := (hb1.cell (p := ⟨bk, off + 2, none⟩) HLT.out).trans z2; have y3 := (hb1.cell (p := ⟨bk, off + 3, none⟩) HLT.out).trans z3; have HB1 := hid hb1; clear z2 z3 hb1) | (go_at_call 28; (with_reducible refine (HCD.out _ (HE.out.below HB1.out)).mono ?_); rintro e w2 ⟨rfl, hb2⟩; have x2 := (hb2.cell (p := ⟨bk, off + 2, none⟩) (Nat.lt_of_lt_of_le HLT.out HB1.out.size)).trans y2; have x3 := (hb2.cell (p := ⟨bk, off + 3, none⟩) (Nat.lt_of_lt_of_le HLT.out HB1.out.size)).trans y3; have HB2 := hid (below_tr HB1.out hb2); clear y2 y3 hb2))
  go_ret3
  exact ⟨head_ret HN.out rfl, HB2.out⟩

set_option maxRecDepth 100000 in
set_option maxHeartbeats 400000 in
theorem header_ok (a b c d : Bs) (bk off cap : Nat) (w : World) (hlt : bk < w.heap.size) (z0 : w.cell? ⟨bk, off, none⟩ = some (.string ⟨a.toArray⟩)) (z1 : w.cell? ⟨bk, off + 1, none⟩ = some (.string ⟨b.toArray⟩)) (z2 : w.cell? ⟨bk, off + 2, none⟩ = some (.string ⟨c.toArray⟩)) (z3 : w.cell? ⟨bk, off + 3, none⟩ = some (.string ⟨d.toArray⟩)) (h0 : a = [112]) (h1 : b = [99, 110, 102]) (hc : c.length ≤ 65536) (hd : d.length ≤ 65536) (hE : Env w) (v k : Int) (hv : numM c = some v) (hk : numM d = some k) (gc : ¬ c.head? = some 45) (gd : ¬ d.head? = some 45) (h5 : ¬ 1048576 < v) (h6 : ¬ 1048576 < k) : Calls Tryd.prog 27 #[.slice (some ⟨bk, off, none⟩) 4 cap] w (HeadPost [a, b, c, d] w) := by
  subst h0
  subst h1
  have HN := hid (show headM [[112], [99, 110, 102], c, d] = (v, k, 0) from by unfold headM; simp [hk, hv, gc, gd, h5, h6])
  have HCC := hid (num_is hv w hc hE)
  have HCD := hid (fun w' hE' => num_is hk w' hd hE')
  obtain ⟨c0, ct, rfl⟩ := numM_cons hv
  obtain ⟨d0, dt, rfl⟩ := numM_cons hk
  have HLT := hid hlt
  have HE := hid hE
  have hc0 : ∀ h, ((⟨(c0 :: ct).toArray⟩ : ByteArray)[0]'h).toNat = c0.toNat := fun _ => rfl
  have hd0 : ∀ h, ((⟨(d0 :: dt).toArray⟩ : ByteArray)[0]'h).toNat = d0.toNat := fun _ => rfl
  have ec : (((c0.toNat : Int)) == 45) = false := by (rw [beq_eq_false_iff_ne]; intro e; apply gc; have h9 : c0 = 45 := UInt8.toNat_inj.1 (show c0.toNat = 45 by omega); subst h9; rfl)
  have ed : (((d0.toNat : Int)) == 45) = false := by (rw [beq_eq_false_iff_ne]; intro e; apply gd; have h9 : d0 = 45 := UInt8.toNat_inj.1 (show d0.toNat = 45 by omega); subst h9; rfl)
  have e5 : decide (1048576 < v) = false := by simp; omega
  have e6 : decide (1048576 < k) = false := by simp; omega
  clear hc hd hE hlt hv hk
  go_enter Tryd.func27, Tryd.ntmps27
  go_wp2_with (first | (go_at_call 28; (with_reducible refine HCC.out.mono ?_); rintro e w1 ⟨rfl, hb1⟩; have y2 := (hb1.cell (p := ⟨bk, off + 2, none⟩) HLT.out).trans z2; have y3 := (hb1.cell (p := ⟨bk, off + 3, none⟩) HLT.out).trans z3; have HB1 := hid hb1; clear z2 z3 hb1) | (go_at_call 28; (with_reducible refine (HCD.out _ (HE.out.below HB1.out)).mono ?_); rintro e w2 ⟨rfl, hb2⟩; have x2 := (hb2.cell (p := ⟨bk, off + 2, none⟩) (Nat.lt_of_lt_of_le HLT.out HB1.out.size)).trans y2; have x3 := (hb2.cell (p := ⟨bk, off + 3, none⟩) (Nat.lt_of_lt_of_le HLT.out HB1.out.size)).trans y3; have HB2 := hid (below_tr HB1.out hb2); clear y2 y3 hb2))
  go_ret3
  exact ⟨head_ret HN.out rfl, HB2.out⟩

theorem header_four (a b c d : Bs) (bk off cap : Nat) (w : World) (hlt : bk < w.heap.size) (z0 : w.cell? ⟨bk, off, none⟩ = some (.string ⟨a.toArray⟩)) (z1 : w.cell? ⟨bk, off + 1, none⟩ = some (.string ⟨b.toArray⟩)) (z2 : w.cell? ⟨bk, off + 2, none⟩ = some (.string ⟨c.toArray⟩)) (z3 : w.cell? ⟨bk, off + 3, none⟩ = some (.string ⟨d.toArray⟩)) (hc : c.length ≤ 65536) (hd : d.length ≤ 65536) (hE : Env w) : Calls Tryd.prog 27 #[.slice (some ⟨bk, off, none⟩) 4 cap] w (HeadPost [a, b, c, d] w) := by
  by_cases h0 : a = [112]
  · by_cases h1 : b = [99, 110, 102]
    · cases hv : numM c with
      | none => exact header_v a b c d bk off cap w hlt z0 z1 z2 z3 h0 h1 hc hd hE hv
      | some v =>
        cases hk : numM d with
        | none => exact header_c a b c d bk off cap w hlt z0 z1 z2 z3 h0 h1 hc hd hE v hv hk
        | some k =>
          by_cases gc : c.head? = some 45
          · exact header_nv a b c d bk off cap w hlt z0 z1 z2 z3 h0 h1 hc hd hE v k hv hk gc
          · by_cases gd : d.head? = some 45
            · exact header_nc a b c d bk off cap w hlt z0 z1 z2 z3 h0 h1 hc hd hE v k hv hk gc gd
            · by_cases h5 : 1048576 < v
              · exact header_gv a b c d bk off cap w hlt z0 z1 z2 z3 h0 h1 hc hd hE v k hv hk gc gd h5
              · by_cases h6 : 1048576 < k
                · exact header_gc a b c d bk off cap w hlt z0 z1 z2 z3 h0 h1 hc hd hE v k hv hk gc gd h5 h6
                · exact header_ok a b c d bk off cap w hlt z0 z1 z2 z3 h0 h1 hc hd hE v k hv hk gc gd h5 h6
    · exact header_cnf a b c d bk off cap w hlt z0 z1 z2 z3 h0 h1
  · exact header_p a b c d bk off cap w hlt z0 z1 z2 z3 h0
/-- dimacs.header. -/
theorem header_any (l : List Bs) (v : Value) (w : World) (hl : Strs (· < w.heap.size) w v l) (hs : ∀ x ∈ l, x.length ≤ 65536) (hE : Env w) : Calls Tryd.prog 27 #[v] w (HeadPost l w) := by
  obtain ⟨p, cap, rfl, h1, h2, h3, hr⟩ := hl
  rw [List.length_map] at h1 h3 ⊢
  by_cases h : l.length = 4
  · match l, h with
    | [a, b, c, d], _ =>
      rcases hr with hr | ⟨bk, off, rfl, hR, hcell⟩
      · simp at hr
      · exact header_four a b c d bk off cap w hR (hcell 0 (by simp)) (hcell 1 (by simp)) (hcell 2 (by simp)) (hcell 3 (by simp)) (hs c (by simp)) (hs d (by simp)) hE
  · exact header_len l p cap w h

end Go.Proofs.YtfllhhgnflpagaaDoor
