/-
  More about a law over two words of a circuit while it runs: sums of other words; Mask; the values.
-/
import Derived.Test.YtngimdbjcelkeaaRun
import Derived.Laws.BitsLemmas
import Derived.Laws.Bits64
namespace Go.Proofs.Ytngimdbjcelkeaa
set_option linter.unusedSimpArgs false
set_option linter.unusedVariables false
open Go.RowKit Go.Shelf

section
variable {w0 w : World} {bb W V K : Nat} {xs ys : List Int} {ax ay : List Bool} {vin vval vx vy va vb : Value} {σ : Nat → Bool} {F : Form} (h : Run w0 bb W xs ys ax ay vin vval vx vy va vb V K w σ F) (h1 : 1 ≤ W) (h64 : W ≤ 64)
  {vp vq : Value} {ps qs : List Int} {bp bq : List Bool} (ip : Ints (Away bb w) w vp ps) (iq : Ints (Away bb w) w vq qs) (hp : LitsAre σ F ps bp) (hq : LitsAre σ F qs bq) (lp : bp.length = W) (lq : bq.length = W)
include h h1 h64 ip iq hp hq lp lq
theorem Run.addG {z : Int} {b : Bool} (hz : LitIs σ F z b) (hV : V + 3 * W < 1048576) (hK : K + 18 * W ≤ 1048576) :
    Calls Try.prog 25 #[.pointer (some ⟨bb, 0, none⟩), vp, vq, .int .i64 z] w (RunW w0 bb W xs ys ax ay vin vval vx vy va vb V K w σ F (addB bp bq b) (3 * W) (18 * W)) := by
  have e := hp.len.trans lp
  have e' := hq.len.trans lq
  have := h.v; have := h.c
  have hc := add_c h.st.c (by omega) (by omega) (by omega) hp.1 hq.1 ip iq hz.1 (by omega) (by omega)
  rw [hp.2, hq.2, e, hz.2] at hc
  exact hc.mono fun _ _ hp => h.word hp
theorem Run.subG (hV : V + 3 * W < 1048576) (hK : K + 18 * W ≤ 1048576) :
    Calls Try.prog 26 #[.pointer (some ⟨bb, 0, none⟩), vp, vq] w (RunW w0 bb W xs ys ax ay vin vval vx vy va vb V K w σ F (addB bp (bq.map (!·)) true) (3 * W) (18 * W)) := by
  have e := hp.len.trans lp
  have e' := hq.len.trans lq
  have := h.v; have := h.c
  have hc := sub_c h.st.c (by omega) (by omega) (by omega) hp.1 hq.1 ip iq (by omega) (by omega)
  rw [hp.2, hq.2, e] at hc
  exact hc.mono fun _ _ hp => h.word hp
end

/-- A sum's difference is the word. -/
theorem sub_add (ax ay : List Bool) (h : ay.length = ax.length) : addB (addB ax ay false) (ay.map (!·)) true = ax := by
  have h1 := addB_len ax ay false h.symm
  have h2 := addB_len (addB ax ay false) (ay.map (!·)) true (by rw [List.length_map, h1, h])
  have hn := notB_val ay
  have ha := valB_lt ax
  have hb := valB_lt ay
  have e1 := addB_val ax ay false h.symm
  have e2 := addB_val (addB ax ay false) (ay.map (!·)) true (by rw [List.length_map, h1, h])
  refine valB_inj (by rw [h2, h1]) ?_
  rw [e2, h1, e1]
  rw [h] at hn hb
  simp only [Bool.toNat_false, Bool.toNat_true, Nat.add_zero]
  rw [Nat.add_assoc, Nat.mod_add_mod]
  have e : valB ax + valB ay + (valB (ay.map (!·)) + 1) = valB ax + 2 ^ ax.length := by omega
  rw [e, Nat.add_mod_right, Nat.mod_eq_of_lt ha]

/-- A mask of n ones, over a u64. -/
theorem and_mask (x : Int) (n : Nat) (hn : n ≤ 64) : bits .and .u64 (IntKind.u64.wrap x) ((2 ^ n - 1 : Nat) : Int) = x % (2 ^ n : Nat) := by
  have hw : ∀ m : Int, 0 ≤ m → m < 2 ^ 64 → IntKind.u64.wrap m = m := fun m h0 h1 => by
    rw [IntKind.wrap_u64]
    have e : (2 : Int) ^ 64 = 18446744073709551616 := by decide
    omega
  have hc : ((2 ^ n - 1 : Nat) : Int) = 2 ^ n - 1 := by
    have : 1 ≤ 2 ^ n := Nat.one_le_two_pow
    rw [Int.natCast_sub this]; simp
  have hr : (0 : Int) ≤ IntKind.u64.wrap x ∧ IntKind.u64.wrap x < 2 ^ 64 := by
    rw [IntKind.wrap_u64]
    have e : (2 : Int) ^ 64 = 18446744073709551616 := by decide
    omega
  rw [hc, bits_mask .u64 64 (by decide) hw n hn _ hr.1 hr.2, IntKind.wrap_u64]
  have e : (18446744073709551616 : Int) = 2 ^ n * 2 ^ (64 - n) := by
    rw [← Int.pow_add]
    have : n + (64 - n) = 64 := by omega
    rw [this]; decide
  rw [Int.emod_emod_of_dvd _ ⟨2 ^ (64 - n), e⟩]
  simp
end Go.Proofs.Ytngimdbjcelkeaa
