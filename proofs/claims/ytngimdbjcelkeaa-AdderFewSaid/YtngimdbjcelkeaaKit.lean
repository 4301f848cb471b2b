/-
  What a law over a circuit carries from call to call: its words and literals, the circuit's box.
-/
import Derived.Test.YtngimdbjcelkeaaRun2
namespace Go.Proofs.Ytngimdbjcelkeaa
set_option linter.unusedSimpArgs false
set_option linter.unusedVariables false
open Go.RowKit Go.Shelf

/-- The words ws and the literals ls are there, with their bits. -/
structure Kit (bb : Nat) (w : World) (σ : Nat → Bool) (F : Form) (ws : List (Value × List Int × List Bool)) (ls : List (Int × Bool)) : Prop where
  w : ∀ x ∈ ws, Ints (Away bb w) w x.1 x.2.1 ∧ LitsAre σ F x.2.1 x.2.2
  l : ∀ x ∈ ls, LitIs σ F x.1 x.2
section
variable {bb n dv dc : Nat} {w w' : World} {σ σ' : Nat → Bool} {F F' : Form} {ws : List (Value × List Int × List Bool)} {ls : List (Int × Bool)}
theorem Kit.nil : Kit bb w σ F [] [] := ⟨(fun _ h => by cases h), (fun _ h => by cases h)⟩
theorem Kit.step (h : Kit bb w σ F ws ls) (hf : FrB bb w w') (hx : Ext n σ F σ' F' dv dc) : Kit bb w' σ' F' ws ls :=
  ⟨fun x hx' => ⟨(h.w x hx').1.fr hf, (h.w x hx').2.ext hx⟩, fun x hx' => (h.l x hx').ext hx⟩
theorem Kit.fr (h : Kit bb w σ F ws ls) (hf : FrB bb w w') : Kit bb w' σ F ws ls :=
  ⟨fun x hx' => ⟨(h.w x hx').1.fr hf, (h.w x hx').2⟩, h.l⟩
theorem Kit.word (h : Kit bb w σ F ws ls) {v : Value} {zs : List Int} {bs : List Bool} (h1 : Ints (Away bb w) w v zs) (h2 : LitsAre σ F zs bs) : Kit bb w σ F ((v, zs, bs) :: ws) ls :=
  ⟨(fun x hx => (List.mem_cons.1 hx).elim (fun e => by subst e; exact ⟨h1, h2⟩) (h.w x)), h.l⟩
theorem Kit.lit (h : Kit bb w σ F ws ls) {z : Int} {b : Bool} (h1 : LitIs σ F z b) : Kit bb w σ F ws ((z, b) :: ls) :=
  ⟨h.w, (fun x hx => (List.mem_cons.1 hx).elim (fun e => by subst e; exact h1) (h.l x))⟩
end

theorem Ints.row {R : Nat → Prop} {w : World} {p : Option Addr} {n c : Nat} {xs : List Int} (h : Ints R w (.slice p n c) xs) : RowR R w p (xs.map (Value.int .i64)) := by
  obtain ⟨p', c', e, _, _, _, hr⟩ := h.op
  injection e with e1
  subst e1
  exact hr
theorem Bools.row {R : Nat → Prop} {w : World} {p : Option Addr} {n c : Nat} {xs : List Bool} (h : Bools R w (.slice p n c) xs) : RowR R w p (xs.map Value.bool) := by
  obtain ⟨p', c', e, _, _, _, hr⟩ := h.op
  injection e with e1
  subst e1
  exact hr
theorem wrap_m1 : IntKind.i64.wrap (-1) = -1 := by decide

/-- The box of a circuit at block k. -/
def BoxS (k : Nat) (a b c : Value) (W' : World) : Prop := W'.cell? ⟨k, 0, none⟩ = some a ∧ W'.cell? ⟨k, 1, none⟩ = some b ∧ W'.cell? ⟨k, 2, none⟩ = some c
theorem BoxS.of {w : World} {k : Nat} {a b c : Value} {t : TypeId} (h : w.heap[k]? = some (.cells #[a, b, c] t (0, 0))) : BoxS k a b c w :=
  ⟨by rw [cell_of_cells h]; rfl, by rw [cell_of_cells h]; rfl, by rw [cell_of_cells h]; rfl⟩
theorem Own.boxS {bb k : Nat} {w : World} {a b c : Value} {t : TypeId} (h : Own bb w k (.cells #[a, b, c] t (0, 0))) : BoxS k a b c w := BoxS.of h.2
theorem BoxS.drew {k : Nat} {a b c : Value} {w : World} (h : BoxS k a b c w) : BoxS k a b c w.drew := h
theorem BoxS.below {B k : Nat} {a b c : Value} {w w' : World} (h : BoxS k a b c w) (hb : Below B w w') (hk : k < B) : BoxS k a b c w' :=
  ⟨(hb.cell (p := ⟨k, 0, none⟩) hk).trans h.1, (hb.cell (p := ⟨k, 1, none⟩) hk).trans h.2.1, (hb.cell (p := ⟨k, 2, none⟩) hk).trans h.2.2⟩
theorem below_tr' {B : Nat} {a b c : World} (h : Below B a b) (k : Below b.heap.size b c) (hB : B ≤ a.heap.size) : Below B a c :=
  ⟨k.os.trans h.os, k.tape.trans h.tape, k.output.trans h.output, Nat.le_trans h.size k.size, fun i hi => (k.block i (Nat.lt_of_lt_of_le hi (Nat.le_trans hB h.size))).trans (h.block i hi)⟩

theorem Run.fr0 {w0 w w' : World} {bb W V K : Nat} {xs ys : List Int} {ax ay : List Bool} {vin vval vx vy va vb : Value} {σ : Nat → Bool} {F : Form} (h : Run w0 bb W xs ys ax ay vin vval vx vy va vb V K w σ F) (hf : FrB bb w w') :
    Ints (Away bb w') w' vx xs ∧ Ints (Away bb w') w' vy ys := ⟨h.ix.fr hf, h.iy.fr hf⟩

/-- Only draws. -/
def Quiet (w w' : World) : Prop := ∃ m, w' = w.drewN m
theorem Quiet.refl (w : World) : Quiet w w := ⟨0, rfl⟩
theorem Quiet.below {w0 w w' : World} {B : Nat} (h : Quiet w w') (hb : Below B w0 w) : Below B w0 w' := by obtain ⟨m, rfl⟩ := h; exact below_drewN hb _

/-- The value of a word that is there. -/
theorem Kit.value {bb : Nat} {w w1 : World} {σ : Nat → Bool} {F : Form} {ws : List (Value × List Int × List Bool)} {ls : List (Int × Bool)} {pk : Option Addr} {ck : Nat} {kk : List Int} {R : Nat → Prop}
    (h : Kit bb w σ F ws ls) (hK : KOk σ F kk) (hv : F.vars ≤ 1048576) (hr : RowR R w pk (kk.map (Value.int .i8))) (v : Value) (zs : List Int) (bs : List Bool) (hm : (v, zs, bs) ∈ ws) (h64 : bs.length ≤ 64) (hq : Quiet w w1) :
    Calls Try.prog 38 #[.slice pk (F.vars + 1) ck, v] w1 fun e w' => e = .returned (.tuple #[.int .u64 (valB bs : Nat), .bool true]) ∧ Quiet w w' := by
  obtain ⟨m, rfl⟩ := hq
  obtain ⟨h1, h2⟩ := h.w _ hm
  have hc := value_any pk ck kk σ F v zs R (Away bb w) (w.drewN m) hK hv (hr.keep (w' := w.drewN m) fun q hq => ⟨hq, rfl⟩) (h1.keep (w' := w.drewN m) fun q hq => ⟨hq, rfl⟩) h2.1 (Nat.le_trans (Nat.le_of_eq h2.len) h64)
  rw [h2.2] at hc
  refine hc.mono ?_
  rintro e w' ⟨rfl, m', rfl⟩
  exact ⟨rfl, m + m', by rw [World.drewN_drewN]⟩

/-- The mask of W ones. -/
def maskV (W : Nat) : Int := ((2 ^ W - 1 : Nat) : Int)
theorem pow_le64 {W : Nat} (h : W ≤ 64) : 2 ^ W ≤ 18446744073709551616 := by
  have : (2 : Nat) ^ W ≤ 2 ^ 64 := Nat.pow_le_pow_right (by decide) h
  exact this
theorem mask_eq {W : Nat} (h : W < 64) : IntKind.u64.wrap (IntKind.u64.wrap (2 ^ W) - 1) = maskV W := by
  unfold maskV
  have h2 : (2 : Nat) ^ W < 2 ^ 64 := Nat.pow_lt_pow_right (by decide) h
  have h3 : 1 ≤ (2 : Nat) ^ W := Nat.one_le_two_pow
  have e : ((2 : Int) ^ W) = ((2 ^ W : Nat) : Int) := by simp
  have e64 : (2 : Nat) ^ 64 = 18446744073709551616 := by decide
  rw [e64] at h2
  rw [e]
  generalize 2 ^ W = q at *
  rw [IntWalk.u64_in (q : Int) (by omega), IntWalk.u64_in _ (by omega)]
  omega
theorem mask64 : (18446744073709551615 : Int) = maskV 64 := by decide

set_option maxHeartbeats 400000 in
theorem mask_any (W : Nat) (w : World) (h1 : 1 ≤ W) (h64 : W ≤ 64) : Calls Try.prog 37 #[.int .i64 (W : Int)] w fun e w' => e = .returned (.int .u64 (maskV W)) ∧ w = w' := by
  by_cases h : W < 64
  · have HM := hid (mask_eq h)
    have d1 : decide ((W : Int) < 1) = false := by simp; omega
    have d2 : decide ((63 : Int) < W) = false := by simp; omega
    go_enter Try.func37, Try.ntmps37
    go_wp2
    go_ret
    exact ⟨ret_i HM.out, rfl⟩
  · obtain rfl : W = 64 := by omega
    go_enter Try.func37, Try.ntmps37
    go_wp2
    go_ret
    exact ⟨ret_i mask64, rfl⟩

/-- A test of a masked number. -/
theorem and_maskV (x : Int) (n : Nat) (hn : n ≤ 64) : bits .and .u64 (IntKind.u64.wrap x) (maskV n) = x % ((2 ^ n : Nat) : Int) := by
  unfold maskV; exact and_mask x n hn
theorem masked_sum (A B : Nat) (n : Nat) (hn : n ≤ 64) : ((((A + B) % 2 ^ n : Nat) : Int) == bits .and .u64 (IntKind.u64.wrap ((A : Int) + B)) (maskV n)) = true := by
  rw [and_maskV _ _ hn, beq_iff_eq]
  simp
theorem masked_diff (A B C : Nat) (n : Nat) (hn : n ≤ 64) (hB : B < 2 ^ n) (hC : C = (A + (2 ^ n - 1 - B) + 1) % 2 ^ n) : ((C : Int) == bits .and .u64 (IntKind.u64.wrap ((A : Int) - B)) (maskV n)) = true := by
  rw [and_maskV _ _ hn, beq_iff_eq, hC]
  have e : (A + (2 ^ n - 1 - B) + 1 : Nat) = A + 2 ^ n - B := by omega
  rw [e, Int.natCast_emod]
  have e2 : ((A + 2 ^ n - B : Nat) : Int) = (A : Int) - B + ((2 ^ n : Nat) : Int) := by omega
  rw [e2, Int.add_emod_right]
theorem sub_val (ax ay : List Bool) (h : ay.length = ax.length) : valB (addB ax (ay.map (!·)) true) = (valB ax + (2 ^ ax.length - 1 - valB ay) + 1) % 2 ^ ax.length := by
  have hn := notB_val ay
  rw [addB_val _ _ _ (by rw [List.length_map, h])]
  rw [h] at hn
  have : valB (ay.map (!·)) = 2 ^ ax.length - 1 - valB ay := by omega
  rw [this]; rfl
theorem cmp_lt {ax ay : List Bool} (h : ax.length = ay.length) (hlt : valB ax < valB ay) : valB [lessS ax ay false, lessS ay ax false, decide (ax = ay)] = 1 := by
  have e : ax ≠ ay := fun e => by subst e; omega
  unfold lessS
  simp only [Bool.false_eq_true, if_false]
  rw [lessB_val _ _ _ h, lessB_val _ _ _ h.symm]
  have : ¬ valB ay < valB ax := by omega
  simp [valB, e, hlt, this]
theorem cmp_gt {ax ay : List Bool} (h : ax.length = ay.length) (hlt : valB ay < valB ax) : valB [lessS ax ay false, lessS ay ax false, decide (ax = ay)] = 2 := by
  have e : ax ≠ ay := fun e => by subst e; omega
  unfold lessS
  simp only [Bool.false_eq_true, if_false]
  rw [lessB_val _ _ _ h, lessB_val _ _ _ h.symm]
  have : ¬ valB ax < valB ay := by omega
  simp [valB, e, hlt, this]
theorem cmp_eq {ax ay : List Bool} (h : ax.length = ay.length) (he : valB ax = valB ay) : valB [lessS ax ay false, lessS ay ax false, decide (ax = ay)] = 4 := by
  have e : ax = ay := valB_inj h he
  subst e
  unfold lessS
  simp only [Bool.false_eq_true, if_false]
  rw [lessB_val _ _ _ rfl]
  simp [valB]

end Go.Proofs.Ytngimdbjcelkeaa
