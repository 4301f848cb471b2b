/-
  By.Make of layer 18, walked.
-/
import Derived.Test.YtjcnhnifageikaaDoorShL2
namespace Go.Proofs.YtjcnhnifageikaaDoor
set_option linter.unusedSimpArgs false
set_option linter.unusedVariables false
open Go.RowKit Go.Shelf
attribute [local go_sem] Oper.semAt_some

theorem own_grow2 {wr w6 : World} {o : Obj} {B k1 k2 : Nat} {v1 v2 : Value} {xs1 xs2 : List Value} (h1 : wr.ownsRow B 3 1 v1 k1 xs1) (h2 : wr.ownsRow B 4 1 v2 k2 xs2) (hg : (wr.alloc o).grownBy w6 v1.ownBlock) : w6.ownsRow B 4 1 v2 k2 xs2 :=
  owns_keep h2 fun jj hjj => ((World.grownBy_alloc wr o v1.ownBlock).trans hg).block jj (h2.lt jj hjj).2 (fun e => own_ne h1 h2 (by decide) jj e.symm hjj)
theorem own_grow1 {wr w6 : World} {o : Obj} {B k1 k2 : Nat} {v1 v2 : Value} {xs1 xs2 : List Value} (h1 : wr.ownsRow B 3 1 v1 k1 xs1) (h2 : wr.ownsRow B 4 1 v2 k2 xs2) (hg : (wr.alloc o).grownBy w6 v2.ownBlock) : w6.ownsRow B 3 1 v1 k1 xs1 :=
  owns_keep h1 fun jj hjj => ((World.grownBy_alloc wr o v2.ownBlock).trans hg).block jj (h1.lt jj hjj).2 (fun e => own_ne h1 h2 (by decide) jj hjj e.symm)
theorem bit_130 : ∀ n : Fin 130, (bits BinOp.and IntKind.i64 ((n.val : Nat) : Int) 1 == 1) = decide (n.val % 2 = 1) := by decide +kernel
theorem bit_i64 (v k : Nat) (hv : v < 130) : (bits BinOp.and IntKind.i64 ((v : Int) / 2 ^ k) 1 == 1) = decide (v / 2 ^ k % 2 = 1) := by
  have e : (v : Int) / 2 ^ k = ((v / 2 ^ k : Nat) : Int) := by simp
  rw [e]
  exact bit_130 ⟨v / 2 ^ k, Nat.lt_of_le_of_lt (Nat.div_le_self _ _) hv⟩

/-- A row cut at n. -/
theorem own_cut {w : World} {base e k n : Nat} {p : Option Addr} {c : Nat} {xs : List Value} (h : w.ownsRow base e 1 (.slice p k c) k xs) (hn : n ≤ k) (h1 : 1 ≤ n) : w.ownsRow base e 1 (.slice p n c) n (xs.take n) := by
  obtain ⟨h0, h2⟩ := h
  refine ⟨by rw [List.length_take]; omega, ?_⟩
  rcases h2 with ⟨e1, e2⟩ | ⟨g, cap, cur, e1, hb, hc, q1, q2, q3, q4⟩
  · omega
  · injection e1 with e1 e2 e3
    subst e1 e3
    refine .inr ⟨g, c, cur, rfl, hb, hc, by omega, q2, q3, ?_⟩
    rw [← q4, List.take_take, Nat.mul_one, Nat.mul_one, Nat.min_eq_left hn]

theorem own_some {w : World} {base e n : Nat} {v : Value} {xs : List Value} (h : w.ownsRow base e 1 v n xs) (h1 : 1 ≤ n) : ∃ g c, v = .slice (some ⟨g, 0, none⟩) n c ∧ n ≤ c := by
  rcases h.2 with ⟨_, h0⟩ | ⟨g, cap, cur, rfl, _, _, h2, _⟩
  · omega
  · exact ⟨g, cap, rfl, h2⟩

/-- The literals of the number of a shift. -/
def yLit (W q : Nat) (rl : Bool) (i : Nat) : Int := if rl = true then ((W + i : Nat) : Int) + 2 else if decide (q / 2 ^ i % 2 = 1) = true then 1 else -1
def yL (W q : Nat) (rl : Bool) : List Int := (List.range W).map (yLit W q rl)
theorem yL_len (W q : Nat) (rl : Bool) : (yL W q rl).length = W := by simp [yL]
theorem yL_snoc (W q : Nat) (rl : Bool) (i : Nat) (h : i < W) : (yL W q rl).take (i + 1) = (yL W q rl).take i ++ [yLit W q rl i] := by
  rw [List.take_succ_eq_append_getElem (by rw [yL_len]; exact h)]
  simp [yL]

theorem yL_lits (W q : Nat) (rl : Bool) (base : List Bool) (hb : base.length = W) (h64 : W ≤ 64) : (yL W q rl).map (litT (sigB (base ++ ofB W q))) = ofB W q ∧ ∀ x ∈ yL W q rl, okLit (2 * W + 1 : Nat) x = true := by
  have hpk : ∀ i, i < W → pickV (base ++ ofB W q) (W + i) = decide (q / 2 ^ i % 2 = 1) := fun i hi => by
    have hl : (base ++ ofB W q).length = 2 * W := by rw [List.length_append, ofB_len, hb]; omega
    unfold pickV
    rw [hl, if_pos (by omega), Nat.mod_eq_of_lt (by omega), List.getD_eq_getElem?_getD, List.getElem?_append_right (by omega), hb, show W + i - W = i by omega, List.getElem?_eq_getElem (by rw [ofB_len]; exact hi), Option.getD_some, ofB_get W q i hi]
  constructor
  · refine List.ext_getElem (by rw [List.length_map, yL_len, ofB_len]) fun i h1 h2 => ?_
    have hi : i < W := by rw [ofB_len] at h2; exact h2
    rw [List.getElem_map, ofB_get W q i hi]
    have e : (yL W q rl)[i]'(by rw [yL_len]; exact hi) = yLit W q rl i := by simp [yL]
    rw [e, ← hpk i hi]
    unfold yLit
    by_cases hr : rl = true
    · rw [if_pos hr]
      unfold litT sigB
      have e1 : (((W + i : Nat) : Int) + 2).natAbs = W + i + 2 := by omega
      rw [e1, if_neg (by omega), show W + i + 2 - 2 = W + i by omega]
      have e2 : decide (0 < ((W + i : Nat) : Int) + 2) = true := by simp; omega
      rw [e2]; cases pickV (base ++ ofB W q) (W + i) <;> rfl
    · rw [if_neg hr, ← hpk i hi]
      cases pickV (base ++ ofB W q) (W + i) <;> rfl
  · intro x hx
    obtain ⟨i, hi, rfl⟩ := List.mem_map.1 hx
    have hi' : i < W := by simpa using hi
    rw [okLit_spec]
    unfold yLit
    split
    · omega
    · split <;> omega

/-- What By.Make leaves. -/
def ByP (w : World) (W q : Nat) (e : Ending) (w' : World) : Prop :=
  ∃ bb σ vin vval v1 v2 va vb xs ys, e = .returned (.tuple #[.agg #[.pointer (some ⟨bb, 0, none⟩), vin, vval], v1, v2, va, vb, .bool true]) ∧ Circ w' bb (2 * W) σ ⟨2 * W + 1, [[1]]⟩ vin vval ∧ xs.length = W ∧ ys.length = W ∧
    (∀ x ∈ xs, okLit (2 * W + 1 : Nat) x = true) ∧ (∀ x ∈ ys, okLit (2 * W + 1 : Nat) x = true) ∧ Ints (Away bb w') w' v1 xs ∧ Ints (Away bb w') w' v2 ys ∧ Bools (Away bb w') w' va (xs.map (litT σ)) ∧ Bools (Away bb w') w' vb (ys.map (litT σ)) ∧
    Below w.heap.size w w' ∧ w.heap.size ≤ bb ∧ (∀ j, j < w.heap.size → Away bb w' j) ∧ ys.map (litT σ) = ofB W q

set_option maxRecDepth 100000 in
set_option maxHeartbeats 3200000 in
theorem by_mk (z nn : Int) (rl : Bool) (vals : List Bool) (lx ly : List Int) (vv vx vy : Value) (w : World) (hz : -9223372036854775808 ≤ z ∧ z ≤ 9223372036854775807) (hnn : -9223372036854775808 ≤ nn ∧ nn ≤ 9223372036854775807)
    (hv : Bools (· < w.heap.size) w vv vals) (hx : Ints (· < w.heap.size) w vx lx) (hy : Ints (· < w.heap.size) w vy ly)
    (hlx : ∀ x ∈ lx, -9223372036854775808 ≤ x ∧ x ≤ 9223372036854775807) (W q : Nat) (hW : W = (z % 64).toNat + 1) (hq : q = (nn % (2 * (W : Int) + 2)).toNat) :
    Calls Tryd.prog 10 #[.agg #[.int .i64 z, vv, vx, vy, .int .i64 nn, .bool rl]] w (ByP w W q) := by
  obtain ⟨pv, cv, rfl, _, _, hv3, hrv⟩ := hv.op
  obtain ⟨px, cx, rfl, _, _, hx3, _⟩ := hx.op
  obtain ⟨py, cy, rfl, _, _, hy3, _⟩ := hy.op
  have hW1 : 1 ≤ W := by omega
  have hW64 : W ≤ 64 := by omega
  obtain ⟨V, hV⟩ : ∃ V : Nat, z % 64 = (V : Int) := ⟨(z % 64).toNat, by omega⟩
  have hWV : (V : Int) + 1 = (W : Int) := by omega
  have hqb : nn % (2 * (W : Int) + 2) = (q : Int) := by
    have := Int.emod_nonneg nn (show 2 * (W : Int) + 2 ≠ 0 by omega)
    omega
  have hq130 : q < 130 := by
    have := Int.emod_lt_of_pos nn (show 0 < 2 * (W : Int) + 2 by omega)
    omega
  have hmod : ∀ w0, Calls Tryd.prog 16 #[.int .i64 z, .int .i64 64] w0 fun e w' => e = .returned (.int .i64 (V : Int)) ∧ w0 = w' := fun w0 => by
    have := mod_any z 64 w0 hz (by omega)
    rw [hV] at this; exact this
  have hmod2 : ∀ w0, Calls Tryd.prog 16 #[.int .i64 nn, .int .i64 (2 * (W : Int) + 2)] w0 fun e w' => e = .returned (.int .i64 (q : Int)) ∧ w0 = w' := fun w0 => by
    have := mod_any nn (2 * (W : Int) + 2) w0 hnn (by omega)
    rw [hqb] at this; exact this
  have HM := hid hmod; have HM2 := hid hmod2
  have hsz2 : ((w.alloc (.cells #[.int .i64 z, .slice pv vals.length cv, .slice px lx.length cx, .slice py ly.length cy, .int .i64 nn, .bool rl] 27)).alloc (.cells #[.pointer none, .slice none 0 0, .slice none 0 0] 30)).heap.size = w.heap.size + 2 := by simp only [World.size_alloc]
  have hb2 : Below w.heap.size w ((w.alloc (.cells #[.int .i64 z, .slice pv vals.length cv, .slice px lx.length cx, .slice py ly.length cy, .int .i64 nn, .bool rl] 27)).alloc (.cells #[.pointer none, .slice none 0 0, .slice none 0 0] 30)) := ((Below.refl _ _).alloc (Nat.le_refl _) _).alloc (by simp only [World.size_alloc]; omega) _
  have hc1 : ((w.alloc (.cells #[.int .i64 z, .slice pv vals.length cv, .slice px lx.length cx, .slice py ly.length cy, .int .i64 nn, .bool rl] 27)).alloc (.cells #[.pointer none, .slice none 0 0, .slice none 0 0] 30)).heap[w.heap.size]? = some (.cells #[.int .i64 z, .slice pv vals.length cv, .slice px lx.length cx, .slice py ly.length cy, .int .i64 nn, .bool rl] 27 (0, 0)) := by
    rw [heap_al, if_neg (by simp only [World.size_alloc]; omega), heap_al, if_pos rfl]
  have hc2 : ((w.alloc (.cells #[.int .i64 z, .slice pv vals.length cv, .slice px lx.length cx, .slice py ly.length cy, .int .i64 nn, .bool rl] 27)).alloc (.cells #[.pointer none, .slice none 0 0, .slice none 0 0] 30)).heap[w.heap.size + 1]? = some (.cells #[.pointer none, .slice none 0 0, .slice none 0 0] 30 (0, 0)) := by
    rw [heap_al, if_pos (by simp only [World.size_alloc])]
  have hrv2 : RowR (· < w.heap.size) ((w.alloc (.cells #[.int .i64 z, .slice pv vals.length cv, .slice px lx.length cx, .slice py ly.length cy, .int .i64 nn, .bool rl] 27)).alloc (.cells #[.pointer none, .slice none 0 0, .slice none 0 0] 30)) pv (vals.map Value.bool) := hrv.keep fun k hk => ⟨hk, hb2.block k hk⟩
  have HRV := hid hrv2
  have HX := hid hx; have HLX := hid hlx; have HB2 := hid hb2; have HC1 := hid hc1; have HC2 := hid hc2; have HS2 := hid hsz2
  clear hrv2 hrv hv hx hy hlx hmod hmod2 hb2 hc1 hc2 hW hq hV hqb hsz2
  go_enter Tryd.func10, Tryd.ntmps10
  go_wp2_with fail
  (with_reducible refine (HM.out _).mono ?_)
  rintro e w1 ⟨rfl, rfl⟩
  go_wp2_with fail
  (with_reducible refine (HM2.out _).mono ?_)
  rintro e w1 ⟨rfl, rfl⟩
  clear HM HM2
  have hw2 : ((w.alloc (.cells #[.int .i64 z, .slice pv vals.length cv, .slice px lx.length cx, .slice py ly.length cy, .int .i64 nn, .bool rl] 27)).alloc (.cells #[.pointer none, .slice none 0 0, .slice none 0 0] 30)) = ((w.alloc (.cells #[.int .i64 z, .slice pv vals.length cv, .slice px lx.length cx, .slice py ly.length cy, .int .i64 nn, .bool rl] 27)).alloc (.cells #[.pointer none, .slice none 0 0, .slice none 0 0] 30)) := rfl
  generalize ((w.alloc (.cells #[.int .i64 z, .slice pv vals.length cv, .slice px lx.length cx, .slice py ly.length cy, .int .i64 nn, .bool rl] 27)).alloc (.cells #[.pointer none, .slice none 0 0, .slice none 0 0] 30)) = w2 at *
  clear hw2
  have hS2 := HS2.out
  have cv1 : w2.cell? ⟨w.heap.size, 1, none⟩ = some (.slice pv vals.length cv) := by rw [cell_of_cells HC1.out]; rfl
  go_wp2_with ((at_builtin; refine wpList_app _ rfl (.const (.slice none 0 0)) (.tmp 28) 22 rfl w2.heap.size 4 (.bool false) 1 Tryd.underlying22 info_bool rfl _ 0 _ rfl (World.ownsRow_nil _ _ _ _) pv vals.length cv _ rfl (by rw [List.length_map]) HRV.out (bools_one _) (by omega) (by unfold maxLen; omega) (Nat.le_refl _) ?_; intro v3 w3 ho3 hg3 _; simp only [Nat.zero_add, List.nil_append] at ho3; obtain ⟨p3, c3, rfl⟩ := own_slice ho3; have HO3 := hid ho3; have HG3 := hid hg3; clear ho3 hg3))
  go_loopw [10] (fun v wr => ∃ (k : Nat) (cur : List Bool), cur.length = k ∧ wr.ownsRow w2.heap.size 4 1 v k (cur.map Value.bool) ∧ Below w2.heap.size w2 wr ∧ k ≤ 140737488355328) (fun v _ => W - lenV v)
  case atStart => exact ⟨vals.length, vals, rfl, HO3.out, (Below.refl _ _).grown HG3.out (Nat.le_refl _) (fun k hk => by cases hk), by omega⟩
  case round =>
    obtain ⟨k, cur, hcl, hown, hbel, hk47⟩ := hrel
    obtain ⟨wo, rfl⟩ : ∃ wo : World, wo = wr := ⟨_, rfl⟩
    have hws := hbel.size
    by_cases hlt : k < W
    · obtain ⟨po, co, rfl⟩ := own_slice hown
      have HO := hid hown; have HBE := hid hbel; have HCL := hid hcl
      clear hown hbel hcl
      go_wp2_with ((at_builtin; refine wpList_app _ rfl (.tmp 34) (.tmp 39) 22 rfl w2.heap.size 4 (.bool false) 1 Tryd.underlying22 info_bool rfl _ k _ rfl (HO.out.alloc _) (some ⟨wo.heap.size, 0, none⟩) 1 1 [.bool _] rfl rfl (RowR.one _ _ _) (by simp [Value.oneCell']) (by omega) (by unfold maxLen; omega) (by rw [World.size_alloc]; omega) ?_; intro v4 w4 ho4 hg4 _; obtain ⟨p4, c4, rfl⟩ := own_slice ho4; have HO4 := hid ho4; have HG4 := hid hg4; clear ho4 hg4))
      go_roundw
      case rel => exact ⟨k + 1, cur ++ [_], by rw [List.length_append, HCL.out]; rfl, by rw [List.map_append]; exact HO4.out, below_one HBE.out hws HG4.out (fun j hj => (HO.out.lt _ hj).1), by omega⟩
      case measure => (simp [lenV]; omega)
    · obtain ⟨g, co, rfl, hkc⟩ := own_some hown (by omega)
      have hkW : (W : Int) ≤ (k : Int) := by omega
      have hkc2 : (W : Int) ≤ (co : Int) := by omega
      have hd : decide ((k : Int) < (W : Int)) = false := by simp; omega
      have hcut := own_cut hown (n := W) (by omega) hW1
      rw [← List.map_take] at hcut
      have hcl2 : (cur.take W).length = W := by rw [List.length_take]; omega
      have HCUT := hid hcut; have HCL := hid hcl2; have HBE := hid hbel
      clear hown hbel hcl hcut hcl2
      generalize cur.take W = base at *
      go_wp2_with fail
      go_loopw [10, 11] (fun v i wr => ∃ (j : Nat), j ≤ W ∧ i = .int .i64 j ∧ wr.ownsRow w2.heap.size 4 1 v (W + j) ((base ++ (ofB W q).take j).map Value.bool) ∧ Below w2.heap.size w2 wr) (fun _ i _ => W - (intOf i).toNat)
      case atStart => exact ⟨0, by omega, rfl, by simpa using HCUT.out, HBE.out⟩
      case round =>
        obtain ⟨j, hj, rfl, hown, hbel⟩ := hrel
        obtain ⟨wp, rfl⟩ : ∃ wp : World, wp = wr := ⟨_, rfl⟩
        obtain ⟨gp, cp, rfl, _⟩ := own_some hown (by omega)
        by_cases hlj : j < W
        · have hsn := ofB_take W q j hlj
          have HO := hid hown; have HBE := hid hbel
          have hws := hbel.size
          clear hown hbel
          by_cases h62 : j ≤ 62
          · have hm : (j : Int) ≤ 62 := by omega
            have eb := bit_i64 q j hq130
            generalize decide (q / 2 ^ j % 2 = 1) = bk at *
            have HSN := hid hsn
            clear hsn
            go_wp2_with ((at_builtin; refine wpList_app _ rfl (.tmp 49) (.tmp 57) 22 rfl w2.heap.size 4 (.bool false) 1 Tryd.underlying22 info_bool rfl _ (W + j) _ rfl (HO.out.alloc _) (some ⟨wp.heap.size, 0, none⟩) 1 1 [.bool bk] rfl rfl (RowR.one _ _ _) (by simp [Value.oneCell']) (by omega) (by unfold maxLen; omega) (by rw [World.size_alloc]; omega) ?_; intro v4 w4 ho4 hg4 _; obtain ⟨p4, c4, rfl⟩ := own_slice ho4; have HO4 := hid ho4; have HG4 := hid hg4; clear ho4 hg4))
            go_roundw
            case rel => exact ⟨j + 1, by omega, by go_num, by rw [HSN.out, ← List.append_assoc, List.map_append]; exact HO4.out, below_one HBE.out hws HG4.out (fun jj hjj => (HO.out.lt _ hjj).1)⟩
            case measure => (simp [intOf] <;> omega)
          · have hm : (62 : Int) < (j : Int) := by omega
            have e0 : q / 2 ^ j = 0 := Nat.div_eq_of_lt (Nat.lt_of_lt_of_le hq130 (Nat.le_trans (by decide) (Nat.pow_le_pow_right (n := 2) (by omega) (show 8 ≤ j by omega))))
            rw [e0] at hsn
            have eb : (bits BinOp.and IntKind.i64 ((q : Int) / 4611686018427387904) 1 == 1) = decide (0 % 2 = 1) := by
              have e : (q : Int) / 4611686018427387904 = 0 := by omega
              rw [e]; rfl
            generalize decide (0 % 2 = 1) = bk at *
            have HSN := hid hsn
            clear hsn e0
            go_wp2_with ((at_builtin; refine wpList_app _ rfl (.tmp 49) (.tmp 57) 22 rfl w2.heap.size 4 (.bool false) 1 Tryd.underlying22 info_bool rfl _ (W + j) _ rfl (HO.out.alloc _) (some ⟨wp.heap.size, 0, none⟩) 1 1 [.bool bk] rfl rfl (RowR.one _ _ _) (by simp [Value.oneCell']) (by omega) (by unfold maxLen; omega) (by rw [World.size_alloc]; omega) ?_; intro v4 w4 ho4 hg4 _; obtain ⟨p4, c4, rfl⟩ := own_slice ho4; have HO4 := hid ho4; have HG4 := hid hg4; clear ho4 hg4))
            go_roundw
            case rel => exact ⟨j + 1, by omega, by go_num, by rw [HSN.out, ← List.append_assoc, List.map_append]; exact HO4.out, below_one HBE.out hws HG4.out (fun jj hjj => (HO.out.lt _ hjj).1)⟩
            case measure => (simp [intOf] <;> omega)
        · obtain rfl : j = W := by omega
          have hvs : Bools (· < wp.heap.size) wp (.slice (some ⟨gp, 0, none⟩) (j + j) cp) (base ++ (ofB j q).take j) := Sl.of_owns hown (by omega) (fun k hk => (hown.lt k hk).2)
          rw [List.take_of_length_le (by rw [ofB_len]; exact Nat.le_refl _)] at hvs
          have hbg := begin_mk (2 * j) (.slice (some ⟨gp, 0, none⟩) (j + j) cp) (base ++ ofB j q) (· < wp.heap.size) wp (by omega) (fun k hk => hk) hvs
          rw [show ((2 * j : Nat) : Int) = 2 * (j : Int) by simp] at hbg
          have HBEG := hid hbg; have HBP := hid hbel
          clear hvs hown hbel hbg
          go_wp2_with fail
          (with_reducible refine HBEG.out.mono ?_)
          rintro e wB ⟨bb, vin, vval, rfl, hC, hbB, hbb, hAw, hi, hva⟩
          obtain ⟨pi, ci, rfl, hci, hcm, hri⟩ := hi.opn (insM_len _)
          obtain ⟨pw, cw, rfl, hcw, hcwm, hrw⟩ := hva.opn (valsM_len _ _)
          have hps := HBP.out.size
          rw [hS2] at hps
          have hbB2 := below_tr' HBP.out hbB (Nat.le_refl _)
          have kA1 := (hbB2.block w.heap.size (by omega)).trans HC1.out
          have kA2 := (hbB2.block (w.heap.size + 1) (by omega)).trans HC2.out
          have a0 : wB.cell? ⟨w.heap.size + 1, 0, none⟩ = some (.pointer none) := by rw [cell_of_cells kA2]; rfl
          have a1 : wB.cell? ⟨w.heap.size + 1, 1, none⟩ = some (.slice none 0 0) := by rw [cell_of_cells kA2]; rfl
          have a2 : wB.cell? ⟨w.heap.size + 1, 2, none⟩ = some (.slice none 0 0) := by rw [cell_of_cells kA2]; rfl
          have f0 : wB.frozen? ⟨w.heap.size + 1, 0, none⟩ = false := frozen_of_cells kA2
          have f1 : wB.frozen? ⟨w.heap.size + 1, 1, none⟩ = false := frozen_of_cells kA2
          have f2 : wB.frozen? ⟨w.heap.size + 1, 2, none⟩ = false := frozen_of_cells kA2
          have b2 : wB.cell? ⟨w.heap.size, 2, none⟩ = some (.slice px lx.length cx) := by rw [cell_of_cells kA1]; rfl
          have HCB := hid hC; have HBB := hid hbB2; have HBBB := hid hbb; have HAW := hid hAw; have HI := hid hi; have HVA := hid hva; have HRI := hid hri; have HRW := hid hrw; have KA1 := hid kA1; have KA2 := hid kA2; have HPS := hid hps; have HBBP := hid hbB
          clear hC hbB hbb hAw hi hva hri hrw kA1 kA2 hbB2 hps HBEG
          go_wp2_with fail
          obtain ⟨g1, g2⟩ := setThree (a := .pointer (some ⟨bb, 0, none⟩)) (b := .slice pi (2 * j) ci) (c := .slice pw (2 * j) cw) KA2.out
          have hps := HPS.out
          have hbps := HBBP.out.size
          obtain ⟨hB3, m3⟩ := HCB.out.b.grown g2 (fun r e => by cases e; exact HAW.out _ (by omega))
          have hk3 : ∀ k, k < wB.heap.size → k ≠ w.heap.size + 1 → (((wB.setCell ⟨w.heap.size + 1, 0, none⟩ (.pointer (some ⟨bb, 0, none⟩))).setCell ⟨w.heap.size + 1, 1, none⟩ (.slice pi (2 * j) ci)).setCell ⟨w.heap.size + 1, 2, none⟩ (.slice pw (2 * j) cw)).heap[k]? = wB.heap[k]? :=
            fun k h1 h2 => g2.block k h1 (fun e => by injection e with e; exact h2 e)
          have hS3 : MkS w (w.heap.size + 1) bb (2 * j) (w.heap.size + 2) (sigB (base ++ ofB j q)) ⟨2 * j + 1, [[1]]⟩ (.slice pi (2 * j) ci) (.slice pw (2 * j) cw) (((wB.setCell ⟨w.heap.size + 1, 0, none⟩ (.pointer (some ⟨bb, 0, none⟩))).setCell ⟨w.heap.size + 1, 1, none⟩ (.slice pi (2 * j) ci)).setCell ⟨w.heap.size + 1, 2, none⟩ (.slice pw (2 * j) cw)) :=
            ⟨hB3, HCB.out.good, HI.out.keep fun k hk => ⟨⟨m3 _ hk.1, by have := hk.2; omega⟩, hk3 k hk.1.size (by have := hk.2; omega)⟩,
              HVA.out.keep fun k hk => ⟨⟨m3 _ hk.1, by have := hk.2; omega⟩, hk3 k hk.1.size (by have := hk.2; omega)⟩, by omega, m3 _ (HAW.out _ (by omega)), g1, by omega, Nat.le_trans (by omega) g2.size, by omega,
              ⟨g2.os.trans (HBB.out.os.trans HB2.out.os), g2.tape.trans (HBB.out.tape.trans HB2.out.tape), g2.output.trans (HBB.out.output.trans HB2.out.output), by have := g2.size; omega, fun k hk => (hk3 k (by omega) (by omega)).trans ((HBB.out.block k (by omega)).trans (HB2.out.block k hk))⟩,
              by have := HBBB.out; omega, fun k hk => m3 _ (HAW.out k (by omega))⟩
          have kA1 := (hk3 w.heap.size (by omega) (by omega)).trans KA1.out
          generalize hw3 : World.setCell (World.setCell (World.setCell wB _ _) _ _) _ _ = w3 at *
          clear hw3 g1 g2 hB3 m3 hk3 a0 a1 a2 f0 f1 f2 b2
          have hx3 : Ints (· < w.heap.size) w3 (.slice px lx.length cx) lx := HX.out.keep fun k hk => ⟨hk, hS3.fr.block k hk⟩
          have hw1 := word_mk bb (2 * j) (sigB (base ++ ofB j q)) _ _ _ j _ lx (· < w.heap.size) w3 hS3.circ (by omega) (fun k hk => by have := hS3.fr.size; omega) hx3 HLX.out
          refine hw1.mono ?_
          rintro e w4 ⟨v1, va, xs, rfl, hxl, hxo, hv1, hva1, hb4⟩
          have hS4 := hS3.below hb4
          have kA14 := (hb4.block w.heap.size (by have := hS3.B3; omega)).trans kA1
          obtain ⟨p1, c1, rfl, _, _, _⟩ := hv1.opn hxl
          obtain ⟨p2, c2, rfl, _, _, _⟩ := hva1.opn (n := j) (by rw [List.length_map]; exact hxl)
          have HS3 := hid hS3; have HS4 := hid hS4; have HXL := hid hxl; have HXO := hid hxo; have HV1 := hid hv1; have HVA1 := hid hva1; have HB4 := hid hb4; have KA14 := hid kA14
          clear hS3 hS4 hxl hxo hv1 hva1 hb4 hx3 hw1 kA1 kA14 hbps hps
          go_wp2_with fail
          go_loopw [4, 6, 12] (fun vy vb i wr => ∃ (k : Nat), k ≤ j ∧ i = .int .i64 k ∧ wr.ownsRow w4.heap.size 3 1 vy k (((yL j q rl).take k).map (Value.int .i64)) ∧ wr.ownsRow w4.heap.size 4 1 vb k (((ofB j q).take k).map Value.bool) ∧ Below w4.heap.size w4 wr) (fun _ _ i _ => j - (intOf i).toNat)
          case atStart => exact ⟨0, by omega, rfl, World.ownsRow_nil _ _ _ _, World.ownsRow_nil _ _ _ _, Below.refl _ _⟩
          case round =>
            obtain ⟨k, hk, rfl, hoy, hob, hbel⟩ := hrel
            obtain ⟨wr, rfl⟩ : ∃ wr' : World, wr' = wr := ⟨_, rfl⟩
            obtain ⟨py_, cy_, rfl⟩ := own_slice hoy
            obtain ⟨pb_, cb_, rfl⟩ := own_slice hob
            by_cases hlk : k < j
            · have hS5 := HS4.out.below hbel
              have hA := (hbel.block w.heap.size (by have := HS4.out.B3; omega)).trans KA14.out
              have r5 : wr.cell? ⟨w.heap.size, 5, none⟩ = some (.bool rl) := by rw [cell_of_cells hA]; rfl
              have r0 : wr.cell? ⟨w.heap.size + 1, 0, none⟩ = some (.pointer (some ⟨bb, 0, none⟩)) := by rw [cell_of_cells hS5.cA]; rfl
              have r1 : wr.cell? ⟨w.heap.size + 1, 1, none⟩ = some (.slice pi (2 * j) ci) := by rw [cell_of_cells hS5.cA]; rfl
              have r2 : wr.cell? ⟨w.heap.size + 1, 2, none⟩ = some (.slice pw (2 * j) cw) := by rw [cell_of_cells hS5.cA]; rfl
              obtain ⟨t, ht, htn⟩ : ∃ t : Nat, (j : Int) + (k : Int) = (t : Int) ∧ j + k = t := ⟨j + k, by omega, rfl⟩
              have htl : t < 2 * j := by omega
              obtain ⟨b1, o1, rfl, hR1, hcc1⟩ := hS5.i.row.atI t (by rw [insM_len]; exact htl)
              obtain ⟨b2, o2, rfl, hR2, hcc2⟩ := hS5.v.row.atB t (by rw [valsM_len]; exact htl)
              have d1 := hcc1 t (by rw [insM_len]; exact htl)
              have d2 := hcc2 t (by rw [valsM_len]; exact htl)
              have e1 : (insM (2 * j))[t]'(by rw [insM_len]; exact htl) = ((t : Nat) : Int) + 2 := by simp [insM]
              have e2 : (valsM (2 * j) (sigB (base ++ ofB j q)))[t]'(by rw [valsM_len]; exact htl) = decide (q / 2 ^ k % 2 = 1) := by
                simp only [valsM_sig, List.getElem_map, List.getElem_range]
                have hl : (base ++ ofB j q).length = 2 * j := by rw [List.length_append, ofB_len, HCL.out]; omega
                unfold pickV
                rw [hl, if_pos (by omega), Nat.mod_eq_of_lt htl, List.getD_eq_getElem?_getD, List.getElem?_append_right (by rw [HCL.out]; omega), HCL.out, show t - j = k by omega, List.getElem?_eq_getElem (by rw [ofB_len]; exact hlk), Option.getD_some, ofB_get j q k hlk]
              rw [e1] at d1
              rw [e2] at d2
              have hsy := yL_snoc j q rl k hlk
              have hsb := ofB_take j q k hlk
              have HSY := hid hsy; have HSB := hid hsb; have HOY := hid hoy; have HOB := hid hob; have HBR := hid hbel
              have hws := hbel.size
              clear hcc1 hcc2 hR1 hR2 e1 e2 hsy hsb hoy hob hbel hS5 hA
              have hyv : yLit j q rl k = if rl = true then (t : Int) + 2 else if decide (q / 2 ^ k % 2 = 1) = true then 1 else -1 := by unfold yLit; rw [htn]
              have HYV := hid hyv
              clear hyv htn
              generalize decide (q / 2 ^ k % 2 = 1) = bt at *
              go_wp2_with fail
              go_quiet (fail)
              have hoyd : (wr.drewN nq).ownsRow w4.heap.size 3 1 (.slice py_ k cy_) k (((yL j q rl).take k).map (Value.int .i64)) := HOY.out
              have hobd : (wr.drewN nq).ownsRow w4.heap.size 4 1 (.slice pb_ k cb_) k (((ofB j q).take k).map Value.bool) := HOB.out
              have hbrd := below_drewN HBR.out nq
              have r5d : (wr.drewN nq).cell? ⟨w.heap.size, 5, none⟩ = some (.bool rl) := r5
              have r0d : (wr.drewN nq).cell? ⟨w.heap.size + 1, 0, none⟩ = some (.pointer (some ⟨bb, 0, none⟩)) := r0
              clear HOY HOB HBR r5 r0 r1 r2 d1 d2 hws
              generalize wr.drewN nq = wd at *
              have HOY := hid hoyd; have HOB := hid hobd; have HBR := hid hbrd
              have hws := hbrd.size
              clear hoyd hobd hbrd
              cases rl
              · cases bt
                · have hyl : yLit j q false k = -1 := HYV.out.trans ((if_neg (by decide)).trans (if_neg (by decide)))
                  have HYL := hid hyl
                  clear hyl
                  go_wp2_with (first | (go_at_call 18; refine (true_any bb _).mono ?_; rintro e w' ⟨rfl, rfl⟩) | ((try rw [wrap_m1]); (at_builtin; refine wpList_app _ rfl (.tmp 107) (.tmp 109) 23 rfl w4.heap.size 3 (.int .i64 0) 8 Tryd.underlying23 info_int rfl (.slice py_ k cy_) k _ rfl (HOY.out.alloc _) (some ⟨wd.heap.size, 0, none⟩) 1 1 [.int .i64 (-1)] rfl rfl (RowR.one _ _ _) (by simp [Value.oneCell']) (by omega) (by unfold maxLen; omega) (by rw [World.size_alloc]; omega) ?_; intro v6 w6 ho6 hg6 _; have hob6 := own_grow2 HOY.out HOB.out hg6; have hb6 := below_one HBR.out hws hg6 (fun jj hjj => (HOY.out.lt _ hjj).1); obtain ⟨p6, c6, rfl⟩ := own_slice ho6; have HO6 := hid ho6; have HOB6 := hid hob6; have HB6 := hid hb6; clear ho6 hg6 hob6 hb6)) | (at_builtin; refine wpList_app _ rfl (.tmp 111) (.tmp 113) 22 rfl w4.heap.size 4 (.bool false) 1 Tryd.underlying22 info_bool rfl (.slice pb_ k cb_) k _ rfl (HOB6.out.alloc _) (some ⟨w6.heap.size, 0, none⟩) 1 1 [.bool _] rfl rfl (RowR.one _ _ _) (by simp [Value.oneCell']) (by omega) (by unfold maxLen; omega) (by rw [World.size_alloc]; exact Nat.le_trans HB6.out.size (Nat.le_succ _)) ?_; intro v7 w7 ho7 hg7 _; have hoy7 := own_grow1 HO6.out HOB6.out hg7; have hb7 := below_one HB6.out HB6.out.size hg7 (fun jj hjj => (HOB6.out.lt _ hjj).1); obtain ⟨p7, c7, rfl⟩ := own_slice ho7; have HO7 := hid ho7; have HOY7 := hid hoy7; have HB7 := hid hb7; clear ho7 hg7 hoy7 hb7))
                  go_roundw
                  case rel => exact ⟨k + 1, by omega, by go_num, by rw [HSY.out, HYL.out, List.map_append]; exact HOY7.out, by rw [HSB.out, List.map_append]; exact HO7.out, HB7.out⟩
                  case measure => (simp [intOf] <;> omega)
                · have hyl : yLit j q false k = 1 := HYV.out.trans ((if_neg (by decide)).trans (if_pos rfl))
                  have HYL := hid hyl
                  clear hyl
                  go_wp2_with (first | (go_at_call 18; refine (true_any bb _).mono ?_; rintro e w' ⟨rfl, rfl⟩) | ((try rw [wrap_m1]); (at_builtin; refine wpList_app _ rfl (.tmp 107) (.tmp 109) 23 rfl w4.heap.size 3 (.int .i64 0) 8 Tryd.underlying23 info_int rfl (.slice py_ k cy_) k _ rfl (HOY.out.alloc _) (some ⟨wd.heap.size, 0, none⟩) 1 1 [.int .i64 1] rfl rfl (RowR.one _ _ _) (by simp [Value.oneCell']) (by omega) (by unfold maxLen; omega) (by rw [World.size_alloc]; omega) ?_; intro v6 w6 ho6 hg6 _; have hob6 := own_grow2 HOY.out HOB.out hg6; have hb6 := below_one HBR.out hws hg6 (fun jj hjj => (HOY.out.lt _ hjj).1); obtain ⟨p6, c6, rfl⟩ := own_slice ho6; have HO6 := hid ho6; have HOB6 := hid hob6; have HB6 := hid hb6; clear ho6 hg6 hob6 hb6)) | (at_builtin; refine wpList_app _ rfl (.tmp 111) (.tmp 113) 22 rfl w4.heap.size 4 (.bool false) 1 Tryd.underlying22 info_bool rfl (.slice pb_ k cb_) k _ rfl (HOB6.out.alloc _) (some ⟨w6.heap.size, 0, none⟩) 1 1 [.bool _] rfl rfl (RowR.one _ _ _) (by simp [Value.oneCell']) (by omega) (by unfold maxLen; omega) (by rw [World.size_alloc]; exact Nat.le_trans HB6.out.size (Nat.le_succ _)) ?_; intro v7 w7 ho7 hg7 _; have hoy7 := own_grow1 HO6.out HOB6.out hg7; have hb7 := below_one HB6.out HB6.out.size hg7 (fun jj hjj => (HOB6.out.lt _ hjj).1); obtain ⟨p7, c7, rfl⟩ := own_slice ho7; have HO7 := hid ho7; have HOY7 := hid hoy7; have HB7 := hid hb7; clear ho7 hg7 hoy7 hb7))
                  go_roundw
                  case rel => exact ⟨k + 1, by omega, by go_num, by rw [HSY.out, HYL.out, List.map_append]; exact HOY7.out, by rw [HSB.out, List.map_append]; exact HO7.out, HB7.out⟩
                  case measure => (simp [intOf] <;> omega)
              · have hyl : yLit j q true k = (t : Int) + 2 := HYV.out.trans (if_pos rfl)
                have HYL := hid hyl
                clear hyl
                go_wp2_with (first | (go_at_call 18; refine (true_any bb _).mono ?_; rintro e w' ⟨rfl, rfl⟩) | ((try rw [wrap_m1]); (at_builtin; refine wpList_app _ rfl (.tmp 107) (.tmp 109) 23 rfl w4.heap.size 3 (.int .i64 0) 8 Tryd.underlying23 info_int rfl (.slice py_ k cy_) k _ rfl (HOY.out.alloc _) (some ⟨wd.heap.size, 0, none⟩) 1 1 [.int .i64 ((t : Int) + 2)] rfl rfl (RowR.one _ _ _) (by simp [Value.oneCell']) (by omega) (by unfold maxLen; omega) (by rw [World.size_alloc]; omega) ?_; intro v6 w6 ho6 hg6 _; have hob6 := own_grow2 HOY.out HOB.out hg6; have hb6 := below_one HBR.out hws hg6 (fun jj hjj => (HOY.out.lt _ hjj).1); obtain ⟨p6, c6, rfl⟩ := own_slice ho6; have HO6 := hid ho6; have HOB6 := hid hob6; have HB6 := hid hb6; clear ho6 hg6 hob6 hb6)) | (at_builtin; refine wpList_app _ rfl (.tmp 111) (.tmp 113) 22 rfl w4.heap.size 4 (.bool false) 1 Tryd.underlying22 info_bool rfl (.slice pb_ k cb_) k _ rfl (HOB6.out.alloc _) (some ⟨w6.heap.size, 0, none⟩) 1 1 [.bool _] rfl rfl (RowR.one _ _ _) (by simp [Value.oneCell']) (by omega) (by unfold maxLen; omega) (by rw [World.size_alloc]; exact Nat.le_trans HB6.out.size (Nat.le_succ _)) ?_; intro v7 w7 ho7 hg7 _; have hoy7 := own_grow1 HO6.out HOB6.out hg7; have hb7 := below_one HB6.out HB6.out.size hg7 (fun jj hjj => (HOB6.out.lt _ hjj).1); obtain ⟨p7, c7, rfl⟩ := own_slice ho7; have HO7 := hid ho7; have HOY7 := hid hoy7; have HB7 := hid hb7; clear ho7 hg7 hoy7 hb7))
                go_roundw
                case rel => exact ⟨k + 1, by omega, by go_num, by rw [HSY.out, HYL.out, List.map_append]; exact HOY7.out, by rw [HSB.out, List.map_append]; exact HO7.out, HB7.out⟩
                case measure => (simp [intOf] <;> omega)
            · obtain rfl : k = j := by omega
              obtain ⟨g1, g2⟩ := setThree (a := .pointer (some ⟨bb, 0, none⟩)) (b := .slice pi (2 * k) ci) (c := .slice pw (2 * k) cw) (HS4.out.below hbel).cA
              have hS5 := HS4.out.below hbel
              have a0 : wr.cell? ⟨w.heap.size + 1, 0, none⟩ = some (.pointer (some ⟨bb, 0, none⟩)) := by rw [cell_of_cells hS5.cA]; rfl
              have a1 : wr.cell? ⟨w.heap.size + 1, 1, none⟩ = some (.slice pi (2 * k) ci) := by rw [cell_of_cells hS5.cA]; rfl
              have a2 : wr.cell? ⟨w.heap.size + 1, 2, none⟩ = some (.slice pw (2 * k) cw) := by rw [cell_of_cells hS5.cA]; rfl
              have f0 : wr.frozen? ⟨w.heap.size + 1, 0, none⟩ = false := frozen_of_cells hS5.cA
              have f1 : wr.frozen? ⟨w.heap.size + 1, 1, none⟩ = false := frozen_of_cells hS5.cA
              have f2 : wr.frozen? ⟨w.heap.size + 1, 2, none⟩ = false := frozen_of_cells hS5.cA
              have hF : ByP w k q (.returned (.tuple #[.agg #[.pointer (some ⟨bb, 0, none⟩), .slice pi (2 * k) ci, .slice pw (2 * k) cw], .slice p1 k c1, .slice py_ k cy_, .slice p2 k c2, .slice pb_ k cb_, .bool true])) (((wr.setCell ⟨w.heap.size + 1, 0, none⟩ (.pointer (some ⟨bb, 0, none⟩))).setCell ⟨w.heap.size + 1, 1, none⟩ (.slice pi (2 * k) ci)).setCell ⟨w.heap.size + 1, 2, none⟩ (.slice pw (2 * k) cw)) := by
                obtain ⟨hSf, mf, hkf⟩ := hS5.again g2 g1
                have hB4 := HS4.out.B3
                have hB3 := HS3.out.B3
                have old : ∀ q, New w3 w4 q → Away bb (((wr.setCell ⟨w.heap.size + 1, 0, none⟩ (.pointer (some ⟨bb, 0, none⟩))).setCell ⟨w.heap.size + 1, 1, none⟩ (.slice pi (2 * k) ci)).setCell ⟨w.heap.size + 1, 2, none⟩ (.slice pw (2 * k) cw)) q ∧ (((wr.setCell ⟨w.heap.size + 1, 0, none⟩ (.pointer (some ⟨bb, 0, none⟩))).setCell ⟨w.heap.size + 1, 1, none⟩ (.slice pi (2 * k) ci)).setCell ⟨w.heap.size + 1, 2, none⟩ (.slice pw (2 * k) cw)).heap[q]? = w4.heap[q]? := fun q hq => by
                  have hA4 := HS3.out.b.away_new HB4.out hq.1 hq.2
                  exact ⟨mf _ ((FrB.of_below HS4.out.b hbel).keep q hA4).1, (hkf q (Nat.lt_of_lt_of_le hq.2 hbel.size) (by have := hq.1; omega)).trans (hbel.block q hq.2)⟩
                have new : ∀ q, New w4 wr q → Away bb (((wr.setCell ⟨w.heap.size + 1, 0, none⟩ (.pointer (some ⟨bb, 0, none⟩))).setCell ⟨w.heap.size + 1, 1, none⟩ (.slice pi (2 * k) ci)).setCell ⟨w.heap.size + 1, 2, none⟩ (.slice pw (2 * k) cw)) q ∧ (((wr.setCell ⟨w.heap.size + 1, 0, none⟩ (.pointer (some ⟨bb, 0, none⟩))).setCell ⟨w.heap.size + 1, 1, none⟩ (.slice pi (2 * k) ci)).setCell ⟨w.heap.size + 1, 2, none⟩ (.slice pw (2 * k) cw)).heap[q]? = wr.heap[q]? := fun q hq => ⟨mf _ (HS4.out.b.away_new hbel hq.1 hq.2), hkf q hq.2 (by have := hq.1; omega)⟩
                have hy2 : Ints (New w4 wr) wr (.slice py_ k cy_) (yL k q rl) := by
                  have h1 := hoy
                  rw [List.take_of_length_le (by rw [yL_len]; exact Nat.le_refl _)] at h1
                  exact Sl.of_owns h1 (by omega) (fun q hq => h1.lt q hq)
                have hlits : (yL k q rl).map (litT (sigB (base ++ ofB k q))) = ofB k q := by
                  exact (yL_lits k q rl base HCL.out (by omega)).1
                have hok : ∀ x ∈ yL k q rl, okLit (2 * k + 1 : Nat) x = true := by
                  exact (yL_lits k q rl base HCL.out (by omega)).2
                have hb2' : Bools (New w4 wr) wr (.slice pb_ k cb_) ((yL k q rl).map (litT (sigB (base ++ ofB k q)))) := by
                  have h1 := hob
                  rw [List.take_of_length_le (by rw [ofB_len]; exact Nat.le_refl _)] at h1
                  rw [hlits]
                  exact Sl.of_owns h1 (by omega) (fun q hq => h1.lt q hq)
                exact ⟨bb, sigB (base ++ ofB k q), _, _, _, _, _, _, xs, yL k q rl, rfl, hSf.circ, HXL.out, yL_len _ _ _, HXO.out, hok, HV1.out.keep old, hy2.keep new, HVA1.out.keep old, hb2'.keep new, hSf.fr, hSf.wb, hSf.lo, hlits⟩
              have HF := hid hF; have G1 := hid g1
              clear hF g1 g2 hoy hob hbel hS5
              go_wp2
              generalize hwf : World.setCell (World.setCell (World.setCell wr _ _) _ _) _ _ = wf at *
              have cf0 : wf.cell? ⟨w.heap.size + 1, 0, none⟩ = some (.pointer (some ⟨bb, 0, none⟩)) := by rw [cell_of_cells G1.out]; rfl
              have cf1 : wf.cell? ⟨w.heap.size + 1, 1, none⟩ = some (.slice pi (2 * k) ci) := by rw [cell_of_cells G1.out]; rfl
              have cf2 : wf.cell? ⟨w.heap.size + 1, 2, none⟩ = some (.slice pw (2 * k) cw) := by rw [cell_of_cells G1.out]; rfl
              exact bodyPost_ret (v := .tuple #[.agg #[.pointer (some ⟨bb, 0, none⟩), .slice pi (2 * k) ci, .slice pw (2 * k) cw], .slice p1 k c1, .slice py_ k cy_, .slice p2 k c2, .slice pb_ k cb_, .bool true]) (by simp [results, Tryd.results10, go_sem, cf0, cf1, cf2]) rfl HF.out

end Go.Proofs.YtjcnhnifageikaaDoor
