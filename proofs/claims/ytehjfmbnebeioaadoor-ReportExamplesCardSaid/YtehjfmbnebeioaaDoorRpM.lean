/-
  The walks of package report: plain, rejects, leaks, Lines.
-/
import Derived.Test.YtehjfmbnebeioaaDoorRpL
import Derived.Lib.ItoaLen
namespace Go.Proofs.YtehjfmbnebeioaaDoor
set_option linter.unusedSimpArgs false
set_option linter.unusedVariables false
open Go.RowKit Go.Shelf
attribute [local go_sem] Oper.semAt_some

/-- A block of cells that is not frozen. -/
def Sft (w : World) (k : Nat) : Prop := ∃ cs t, w.heap[k]? = some (.cells cs t (0, 0))
theorem Sft.size {w : World} {k : Nat} (h : Sft w k) : k < w.heap.size := by
  obtain ⟨cs, t, h⟩ := h
  exact (Array.getElem?_eq_some_iff.1 h).1
theorem Sft.frozen {w : World} {k i : Nat} (h : Sft w k) : w.frozen? ⟨k, i, none⟩ = false := by
  obtain ⟨cs, t, h⟩ := h
  simp [World.frozen?, h]
theorem Sft.keep {w w' : World} {k : Nat} (h : Sft w k) (e : w'.heap[k]? = w.heap[k]?) : Sft w' k := by
  obtain ⟨cs, t, h⟩ := h
  exact ⟨cs, t, e.trans h⟩
theorem owns_sft {base e sz n : Nat} {w : World} {v : Value} {xs : List Value} (h : w.ownsRow base e sz v n xs) : ∀ j, v.ownBlock = some j → Sft w j := by
  intro j hj
  obtain ⟨hl, h2⟩ := h
  rcases h2 with ⟨rfl, _⟩ | ⟨g, cap, cur, rfl, hb, hg, hr⟩
  · cases hj
  · cases hj; exact ⟨cur, e, hg⟩
theorem owns_sliceL {base e sz n : Nat} {w : World} {v : Value} {xs : List Value} (h : w.ownsRow base e sz v n xs) : ∃ p c, v = .slice p n c := by
  rcases h.2 with ⟨rfl, h0⟩ | ⟨g, cap, cur, rfl, _⟩
  · exact ⟨none, 0, by rw [h0]⟩
  · exact ⟨_, _, rfl⟩
theorem owns_keepL {base e sz n : Nat} {w w' : World} {v : Value} {xs : List Value} (h : w.ownsRow base e sz v n xs) (hf : ∀ j, v.ownBlock = some j → w'.heap[j]? = w.heap[j]?) : w'.ownsRow base e sz v n xs := by
  obtain ⟨hl, h2⟩ := h
  refine ⟨hl, ?_⟩
  rcases h2 with h2 | ⟨g, cap, cur, rfl, hb, hg, hr⟩
  · exact .inl h2
  · exact .inr ⟨g, cap, cur, rfl, hb, (hf g rfl).trans hg, hr⟩
/-- What hands back lines and an error. -/
def VPost (r : List By × Int) (w : World) (e : Ending) (w' : World) : Prop :=
  Below w.heap.size w w' ∧ ∃ p c, e = .returned (.tuple #[.slice p r.1.length c, .int .i64 r.2]) ∧ Strs (fun k => w.heap.size ≤ k ∧ Sft w' k) w' (.slice p r.1.length c) r.1
theorem vpost_nil {r : List By × Int} {w w' : World} {x : Int} (h : r = ([], x)) (hb : Below w.heap.size w w') : VPost r w (.returned (.tuple #[.slice none 0 0, .int .i64 x])) w' := by
  subst h; exact ⟨hb, none, 0, rfl, Strs.nil⟩
theorem strs_lit {R : Nat → Prop} (w : World) (s : By) (hR : R w.heap.size) : Strs R (w.alloc (.cells #[.string ⟨s.toArray⟩] 9)) (.slice (some ⟨w.heap.size, 0, none⟩) 1 1) [s] :=
  ⟨_, 1, rfl, Nat.le_refl _, by unfold maxLen; omega, by simp, RowR.lit w [sV s] 9 hR⟩
theorem vpost_one {r : List By × Int} {w W : World} {s : By} (h : r = ([s], 0)) (hb : Below w.heap.size w W) : VPost r w (.returned (.tuple #[.slice (some ⟨W.heap.size, 0, none⟩) 1 1, .int .i64 0])) (W.alloc (.cells #[.string ⟨s.toArray⟩] 9)) := by
  subst h
  exact ⟨hb.alloc hb.size _, _, _, rfl, strs_lit W s ⟨hb.size, #[.string ⟨s.toArray⟩], 9, by rw [heap_al, if_pos rfl]⟩⟩
theorem wordR_code (k r : Nat) : (wordR k r).2 = 0 ∨ (wordR k r).2 = 2 ∨ (wordR k r).2 = 3 := by
  unfold wordR
  split
  · exact .inr (.inr rfl)
  · split
    · exact .inr (.inl rfl)
    · split
      · exact .inl rfl
      · split
        · exact .inr (.inr rfl)
        · exact .inl rfl

set_option maxRecDepth 100000 in
set_option maxHeartbeats 2000000 in
theorem plainL_any (k r : Nat) (lv : Int) (A B : List (List Nat)) (imp pol : Bool) (ln co er : Int) (pA pB : Option Addr) (cA cB : Nat) (vl vc : Value) (w : World) (hk : k ≤ 255) (hr : r ≤ 255) (ht : Tabs w) :
    Calls Tryd.prog 37 #[.agg #[.int .u8 (k : Int), .int .u8 (r : Int), .int .i64 lv, .slice pA A.length cA, .slice pB B.length cB, .bool imp, .bool pol, .int .i64 ln, .int .i64 co, .int .i64 er], vl, vc] w (VPost (plainR (⟨k, r, lv, A, B, imp, pol, ln, co, er⟩ : Vd)) w) := by
  have hb0 : Below w.heap.size w (w.alloc (.cells #[.int .u8 (k : Int), .int .u8 (r : Int), .int .i64 lv, .slice pA A.length cA, .slice pB B.length cB, .bool imp, .bool pol, .int .i64 ln, .int .i64 co, .int .i64 er] 35)) := (Below.refl _ _).alloc (Nat.le_refl _) _
  have HB0 := hid hb0
  obtain ⟨⟨l, c⟩, hq⟩ : ∃ q, wordR k r = q := ⟨_, rfl⟩
  have HW := hid (show Calls Tryd.prog 9 #[.int .u8 (k : Int), .int .u8 (r : Int)] (w.alloc (.cells #[.int .u8 (k : Int), .int .u8 (r : Int), .int .i64 lv, .slice pA A.length cA, .slice pB B.length cB, .bool imp, .bool pol, .int .i64 ln, .int .i64 co, .int .i64 er] 35)) fun e w' => e = .returned (.tuple #[.string ⟨l.toArray⟩, .int .i64 c]) ∧ Below (w.alloc (.cells #[.int .u8 (k : Int), .int .u8 (r : Int), .int .i64 lv, .slice pA A.length cA, .slice pB B.length cB, .bool imp, .bool pol, .int .i64 ln, .int .i64 co, .int .i64 er] 35)).heap.size (w.alloc (.cells #[.int .u8 (k : Int), .int .u8 (r : Int), .int .i64 lv, .slice pA A.length cA, .slice pB B.length cB, .bool imp, .bool pol, .int .i64 ln, .int .i64 co, .int .i64 er] 35)) w' from by
    have := word_any k r (w.alloc (.cells #[.int .u8 (k : Int), .int .u8 (r : Int), .int .i64 lv, .slice pA A.length cA, .slice pB B.length cB, .bool imp, .bool pol, .int .i64 ln, .int .i64 co, .int .i64 er] 35)) hk hr (ht.below hb0)
    unfold WordPost at this
    rw [hq] at this
    exact this)
  have HP := hid (show plainR (⟨k, r, lv, A, B, imp, pol, ln, co, er⟩ : Vd) = if c = 0 then ([l], 0) else ([], c) from by unfold plainR; dsimp only; rw [hq])
  clear hq
  clear hb0 ht
  go_enter Tryd.func37, Tryd.ntmps37
  go_wp2_with fail
  generalize World.alloc _ _ = W0 at *
  refine HW.out.mono ?_
  rintro e w1 ⟨rfl, hb1⟩
  have HB1 := hid (HB0.out.trans (hb1.mono HB0.out.size))
  clear hb1 HW
  by_cases hc : c = 0
  · subst hc
    have HP2 := hid (show plainR (⟨k, r, lv, A, B, imp, pol, ln, co, er⟩ : Vd) = ([l], 0) from by rw [HP.out, if_pos rfl])
    go_wp2
    go_ret2
    exact vpost_one HP2.out HB1.out
  · have HP2 := hid (show plainR (⟨k, r, lv, A, B, imp, pol, ln, co, er⟩ : Vd) = ([], c) from by rw [HP.out, if_neg hc])
    have e1 : (c != 0) = true := by rw [bne_iff_ne]; exact hc
    go_wp2
    go_ret2
    exact vpost_nil HP2.out HB1.out

theorem itoaR_any (n : Int) (w : World) (h : -9223372036854775808 ≤ n ∧ n ≤ 9223372036854775807) (hp : Lib.TabIs Tryd.prog w "internal/strconv.uint64pow10" .u64 Lib.pow10Tab) :
    Calls Tryd.prog 50 #[.int .i64 n] w fun e w' => e = .returned (.string ⟨(Lib.itoa n).toArray⟩) ∧ Below w.heap.size w w' :=
  (Tryd.strconv_Itoa n h.1 h.2 w hp).mono fun e w' ⟨he, k, os, hw⟩ => ⟨he, by rw [hw]; exact Lib.below_grow _ _ (Nat.le_refl _) _ _⟩
theorem catRj (a b c d e : By) : (⟨a.toArray⟩ : ByteArray) ++ ⟨b.toArray⟩ ++ ⟨c.toArray⟩ ++ ⟨#[32]⟩ ++ ⟨d.toArray⟩ ++ ⟨#[32]⟩ ++ ⟨e.toArray⟩ = ⟨(a ++ b ++ c ++ ([32] : By) ++ d ++ ([32] : By) ++ e).toArray⟩ := by
  simp only [ByteArray.mk_append_mk]; try simp
theorem wErr_len (n : Nat) : (wErr n).length ≤ 6 := by unfold wErr; split <;> simp
set_option maxRecDepth 100000 in
set_option maxHeartbeats 4000000 in
theorem rejects_any (k r : Nat) (lv : Int) (A B : List (List Nat)) (imp pol : Bool) (ln co er : Int) (pA pB : Option Addr) (cA cB : Nat) (vl vc : Value) (w : World) (hln : -9223372036854775808 ≤ ln ∧ ln ≤ 9223372036854775807) (hco : -9223372036854775808 ≤ co ∧ co ≤ 9223372036854775807) (ht : Tabs w) :
    Calls Tryd.prog 39 #[.agg #[.int .u8 (k : Int), .int .u8 (r : Int), .int .i64 lv, .slice pA A.length cA, .slice pB B.length cB, .bool imp, .bool pol, .int .i64 ln, .int .i64 co, .int .i64 er], vl, vc] w (VPost (rejectR (⟨k, r, lv, A, B, imp, pol, ln, co, er⟩ : Vd)) w) := by
  have hb0 : Below w.heap.size w (w.alloc (.cells #[.int .u8 (k : Int), .int .u8 (r : Int), .int .i64 lv, .slice pA A.length cA, .slice pB B.length cB, .bool imp, .bool pol, .int .i64 ln, .int .i64 co, .int .i64 er] 35)) := (Below.refl _ _).alloc (Nat.le_refl _) _
  have HB0 := hid hb0
  have HT := hid (ht.below hb0)
  clear hb0 ht
  by_cases h1 : er < 1
  · have HR := hid (show rejectR (⟨k, r, lv, A, B, imp, pol, ln, co, er⟩ : Vd) = ([], 3) from by unfold rejectR; rw [if_pos (.inl h1)])
    have a1 : decide (er < 1) = true := by simp; omega
    go_enter Tryd.func39, Tryd.ntmps39
    go_wp2
    go_ret2
    exact vpost_nil HR.out HB0.out
  · by_cases h10 : 10 < er
    · have HR := hid (show rejectR (⟨k, r, lv, A, B, imp, pol, ln, co, er⟩ : Vd) = ([], 3) from by unfold rejectR; rw [if_pos (.inr h10)])
      have a1 : decide (er < 1) = false := by simp; omega
      have a2 : decide (10 < er) = true := by simp; omega
      go_enter Tryd.func39, Tryd.ntmps39
      go_wp2
      go_ret2
      exact vpost_nil HR.out HB0.out
    · obtain ⟨n, rfl⟩ : ∃ n : Nat, er = n := ⟨er.toNat, by omega⟩
      have a1 : decide ((n : Int) < 1) = false := by simp; omega
      have a2 : decide (10 < (n : Int)) = false := by simp; omega
      have a3 : ¬ n = 0 := by omega
      have a4 : ¬ 10 < n := by omega
      have a5 : (n : Int) < 11 := by omega
      have ce := HT.out.err n (by omega)
      have hle := wErr_len n
      have zE := size_mkS (wErr n)
      have l1 := Lib.itoa_length_le ln hln.1 hln.2
      have l2 := Lib.itoa_length_le co hco.1 hco.2
      have z1 := size_mkS (Lib.itoa ln)
      have z2 := size_mkS (Lib.itoa co)
      cases pol with
      | true =>
        obtain ⟨W0, hW0⟩ : ∃ W, w.alloc (.cells #[.int .u8 (k : Int), .int .u8 (r : Int), .int .i64 lv, .slice pA A.length cA, .slice pB B.length cB, .bool imp, .bool true, .int .i64 ln, .int .i64 co, .int .i64 (n : Int)] 35) = W := ⟨_, rfl⟩
        rw [hW0] at HB0 HT ce
        obtain ⟨b, hbb⟩ : ∃ b, w.heap.size = b := ⟨_, rfl⟩
        have hcb : W0.heap[b]? = some (.cells #[.int .u8 (k : Int), .int .u8 (r : Int), .int .i64 lv, .slice pA A.length cA, .slice pB B.length cB, .bool imp, .bool true, .int .i64 ln, .int .i64 co, .int .i64 (n : Int)] 35 (0, 0)) := by rw [← hW0, ← hbb, heap_al, if_pos rfl]
        have hbl : b < W0.heap.size := (Array.getElem?_eq_some_iff.1 hcb).1
        have c6 : W0.cell? ⟨b, 6, none⟩ = some (.bool true) := by rw [cell_of_row W0 b 6 _ _ _ hcb]; rfl
        have c7 : W0.cell? ⟨b, 7, none⟩ = some (.int .i64 ln) := by rw [cell_of_row W0 b 7 _ _ _ hcb]; rfl
        have c8 : W0.cell? ⟨b, 8, none⟩ = some (.int .i64 co) := by rw [cell_of_row W0 b 8 _ _ _ hcb]; rfl
        have c9 : W0.cell? ⟨b, 9, none⟩ = some (.int .i64 (n : Int)) := by rw [cell_of_row W0 b 9 _ _ _ hcb]; rfl
        have HI1 := hid (fun W (h : Below W0.heap.size W0 W) => itoaR_any ln W hln (HT.out.below h).pow)
        have HI2 := hid (fun W (h : Below W0.heap.size W0 W) => itoaR_any co W hco (HT.out.below h).pow)
        have HWW := hid hW0
        clear hcb hW0
        go_enter Tryd.func39, Tryd.ntmps39
        go_wp2_with fail
        rw [HWW.out]
        have HBB := hid hbb
        clear hbb
        have y0 : ¬ 9223372036854775807 < 14 + (Lib.itoa ln).length := by omega
        have y1 : ¬ 9223372036854775807 < 14 + (Lib.itoa ln).length + 1 := by omega
        have y2 : ¬ 9223372036854775807 < 14 + (Lib.itoa ln).length + 1 + (Lib.itoa co).length := by omega
        have y3 : ¬ 9223372036854775807 < 14 + (Lib.itoa ln).length + 1 + (Lib.itoa co).length + 1 := by omega
        have y4 : ¬ 9223372036854775807 < 14 + (Lib.itoa ln).length + 1 + (Lib.itoa co).length + 1 + (wErr n).length := by omega
        have HS := hid (show ∀ W', Below W0.heap.size W0 W' → (fun W' : World => (W'.cell? ⟨b, 7, none⟩ = some (.int .i64 ln) ∧ W'.cell? ⟨b, 8, none⟩ = some (.int .i64 co)) ∧ W'.cell? ⟨b, 9, none⟩ = some (.int .i64 (n : Int)) ∧ W'.cell? ⟨1, n, none⟩ = some (.string ⟨(wErr n).toArray⟩)) W' from fun W' h => ⟨⟨(h.cell (p := ⟨b, 7, none⟩) hbl).trans c7, (h.cell (p := ⟨b, 8, none⟩) hbl).trans c8⟩, (h.cell (p := ⟨b, 9, none⟩) hbl).trans c9, (h.cell (p := ⟨_, n, none⟩) (cell_size ce)).trans ce⟩)
        have hS : (fun W' : World => (W'.cell? ⟨b, 7, none⟩ = some (.int .i64 ln) ∧ W'.cell? ⟨b, 8, none⟩ = some (.int .i64 co)) ∧ W'.cell? ⟨b, 9, none⟩ = some (.int .i64 (n : Int)) ∧ W'.cell? ⟨1, n, none⟩ = some (.string ⟨(wErr n).toArray⟩)) W0.drew := ⟨⟨c7, c8⟩, c9, ce⟩
        have HR := hid (show rejectR ⟨k, r, lv, A, B, imp, true, ln, co, (n : Int)⟩ = ([wReject ++ ([32, 112, 111, 108, 105, 99, 121, 32] : List UInt8) ++ Lib.itoa ln ++ ([32] : List UInt8) ++ Lib.itoa co ++ ([32] : List UInt8) ++ wErr n], 0) from by unfold rejectR; dsimp only; rw [if_neg (by omega)]; simp)
        go_wp2_with fail
        have hFa : ∀ f, Fence.wide.fn f := fun _ => trivial
        refine (wpIn_wide (n := 9)).1 ?_
        refine wpIn_onlyN ?_
        refine wpIn_region_HJ (fun W' : World => (W'.cell? ⟨b, 7, none⟩ = some (.int .i64 ln) ∧ W'.cell? ⟨b, 8, none⟩ = some (.int .i64 co)) ∧ W'.cell? ⟨b, 9, none⟩ = some (.int .i64 (n : Int)) ∧ W'.cell? ⟨1, n, none⟩ = some (.string ⟨(wErr n).toArray⟩)) 21 (by kernel_rfl) ?_
        simp only [List.size_toArray, List.length_cons, List.length_nil, Nat.reduceAdd]
        refine wpHJ_pure (v := ?va0) 0 hFa rfl (by kernel_rfl) (fun _ _ _ h => h.elim) (Or.inl ⟨by rfl, ?ya0⟩) (.inr hS) ?ra0
        case ya0 => (intro w' _; go_simp; try rfl)
        simp only [Act.put, List.getElem_toArray, List.getElem_cons_succ, List.getElem_cons_zero, List.setIfInBounds_toArray, List.set_cons_zero, List.set_cons_succ]
        refine wpHJ_pure (v := ?va1) 1 hFa rfl (by kernel_rfl) (fun _ _ _ h => h.elim) (Or.inl ⟨by rfl, ?ya1⟩) (.inr hS) ?ra1
        case ya1 => (intro w' _; go_simp; try rfl)
        simp only [Act.put, List.getElem_toArray, List.getElem_cons_succ, List.getElem_cons_zero, List.setIfInBounds_toArray, List.set_cons_zero, List.set_cons_succ]
        refine wpHJ_pure (v := ?va2) 2 hFa rfl (by kernel_rfl) (fun _ _ _ h => h.elim) (Or.inl ⟨by rfl, ?ya2⟩) (.inr hS) ?ra2
        case ya2 => (intro w' _; go_simp; try rfl)
        simp only [Act.put, List.getElem_toArray, List.getElem_cons_succ, List.getElem_cons_zero, List.setIfInBounds_toArray, List.set_cons_zero, List.set_cons_succ]
        refine wpHJ_pure (v := ?va3) 3 hFa rfl (by kernel_rfl) (fun _ _ _ h => h.elim) (Or.inl ⟨by rfl, ?ya3⟩) (.inr hS) ?ra3
        case ya3 => (intro w' _; go_simp; try rfl)
        simp only [Act.put, List.getElem_toArray, List.getElem_cons_succ, List.getElem_cons_zero, List.setIfInBounds_toArray, List.set_cons_zero, List.set_cons_succ]
        refine wpHJ_take (v := ?va4) 4 hFa rfl (by kernel_rfl) (fun _ _ _ h => h.elim) (Or.inl ⟨by rfl, ?ya4⟩) hS ?ra4
        case ya4 => (intro w' hS'; obtain ⟨⟨s1, s2⟩, s3, s4⟩ := hS'; go_simp; try rfl)
        simp only [Act.put, List.getElem_toArray, List.getElem_cons_succ, List.getElem_cons_zero, List.setIfInBounds_toArray, List.set_cons_zero, List.set_cons_succ]
        refine wpHJ_pure (v := ?va8) 8 hFa rfl (by kernel_rfl) (fun _ _ _ h => h.elim) (Or.inl ⟨by rfl, ?ya8⟩) (.inr hS) ?ra8
        case ya8 => (intro w' _; go_simp; try rfl)
        simp only [Act.put, List.getElem_toArray, List.getElem_cons_succ, List.getElem_cons_zero, List.setIfInBounds_toArray, List.set_cons_zero, List.set_cons_succ]
        refine wpHJ_pure (v := ?va9) 9 hFa rfl (by kernel_rfl) (fun _ _ _ h => h.elim) (Or.inl ⟨by rfl, ?ya9⟩) (.inr hS) ?ra9
        case ya9 => (intro w' _; go_simp; try rfl)
        simp only [Act.put, List.getElem_toArray, List.getElem_cons_succ, List.getElem_cons_zero, List.setIfInBounds_toArray, List.set_cons_zero, List.set_cons_succ]
        refine wpHJ_take (v := ?va10) 10 hFa rfl (by kernel_rfl) (fun _ _ _ h => h.elim) (Or.inl ⟨by rfl, ?ya10⟩) hS ?ra10
        case ya10 => (intro w' hS'; obtain ⟨⟨s1, s2⟩, s3, s4⟩ := hS'; go_simp; try rfl)
        simp only [Act.put, List.getElem_toArray, List.getElem_cons_succ, List.getElem_cons_zero, List.setIfInBounds_toArray, List.set_cons_zero, List.set_cons_succ]
        refine wpHJ_pure (v := ?va14) 14 hFa rfl (by kernel_rfl) (fun _ _ _ h => h.elim) (Or.inl ⟨by rfl, ?ya14⟩) (.inr hS) ?ra14
        case ya14 => (intro w' _; go_simp; try rfl)
        simp only [Act.put, List.getElem_toArray, List.getElem_cons_succ, List.getElem_cons_zero, List.setIfInBounds_toArray, List.set_cons_zero, List.set_cons_succ]
        refine wpHJ_take (v := ?va15) 15 hFa rfl (by kernel_rfl) (fun _ _ _ h => h.elim) (Or.inl ⟨by rfl, ?ya15⟩) hS ?ra15
        case ya15 => (intro w' hS'; obtain ⟨⟨s1, s2⟩, s3, s4⟩ := hS'; go_simp; try rfl)
        simp only [Act.put, List.getElem_toArray, List.getElem_cons_succ, List.getElem_cons_zero, List.setIfInBounds_toArray, List.set_cons_zero, List.set_cons_succ]
        refine wpHJ_pure (v := ?va16) 16 hFa rfl (by kernel_rfl) (fun _ _ _ h => h.elim) (Or.inl ⟨by rfl, ?ya16⟩) (.inr hS) ?ra16
        case ya16 => (intro w' _; go_simp; try rfl)
        simp only [Act.put, List.getElem_toArray, List.getElem_cons_succ, List.getElem_cons_zero, List.setIfInBounds_toArray, List.set_cons_zero, List.set_cons_succ]
        refine wpHJ_take (v := ?va17) 17 hFa rfl (by kernel_rfl) (fun _ _ _ h => h.elim) (Or.inl ⟨by rfl, ?ya17⟩) hS ?ra17
        case ya17 => (intro w' hS'; obtain ⟨⟨s1, s2⟩, s3, s4⟩ := hS'; go_simp; try rfl)
        simp only [Act.put, List.getElem_toArray, List.getElem_cons_succ, List.getElem_cons_zero, List.setIfInBounds_toArray, List.set_cons_zero, List.set_cons_succ]
        clear hS
        have HBd := hid (show Below W0.heap.size W0 W0.drew from ⟨rfl, rfl, rfl, Nat.le_refl _, fun _ _ => rfl⟩)
        generalize W0.drew = wd at *
        refine wpHJ_only 5 (by kernel_rfl) rfl ?_
        intro K hK
        go_simp
        (with_reducible refine (callsIn_wide.2 (HI1.out wd HBd.out)).mono ?_)
        rintro e w1 ⟨rfl, hb1⟩
        have HB1 := hid (HBd.out.trans (hb1.mono HBd.out.size))
        clear hb1
        refine hK _ _ (.inr (.inr (HS.out w1 HB1.out))) ?_
        clear hK K
        refine wpHJ_pure (v := ?va6) 6 hFa rfl (by kernel_rfl) (fun _ _ _ h => h.elim) (Or.inl ⟨by rfl, ?ya6⟩) (.inr (HS.out w1 HB1.out)) ?ra6
        case ya6 => (intro w' _; go_simp; try rfl)
        simp only [Act.put, List.getElem_toArray, List.getElem_cons_succ, List.getElem_cons_zero, List.setIfInBounds_toArray, List.set_cons_zero, List.set_cons_succ]
        refine wpHJ_pure (v := ?va7) 7 hFa rfl (by kernel_rfl) (fun _ _ _ h => h.elim) (Or.inl ⟨by rfl, ?ya7⟩) (.inr (HS.out w1 HB1.out)) ?ra7
        case ya7 => (intro w' _; go_simp; try rfl)
        simp only [Act.put, List.getElem_toArray, List.getElem_cons_succ, List.getElem_cons_zero, List.setIfInBounds_toArray, List.set_cons_zero, List.set_cons_succ]
        refine wpHJ_only 11 (by kernel_rfl) rfl ?_
        intro K hK
        go_simp
        (with_reducible refine (callsIn_wide.2 (HI2.out w1 HB1.out)).mono ?_)
        rintro e w2 ⟨rfl, hb2⟩
        have HB2 := hid (HB1.out.trans (hb2.mono HB1.out.size))
        clear hb2
        refine hK _ _ (.inr (.inr (HS.out w2 HB2.out))) ?_
        clear hK K
        refine wpHJ_pure (v := ?va12) 12 hFa rfl (by kernel_rfl) (fun _ _ _ h => h.elim) (Or.inl ⟨by rfl, ?ya12⟩) (.inr (HS.out w2 HB2.out)) ?ra12
        case ya12 => (intro w' _; go_simp; try rfl)
        simp only [Act.put, List.getElem_toArray, List.getElem_cons_succ, List.getElem_cons_zero, List.setIfInBounds_toArray, List.set_cons_zero, List.set_cons_succ]
        refine wpHJ_pure (v := ?va13) 13 hFa rfl (by kernel_rfl) (fun _ _ _ h => h.elim) (Or.inl ⟨by rfl, ?ya13⟩) (.inr (HS.out w2 HB2.out)) ?ra13
        case ya13 => (intro w' _; go_simp; try rfl)
        simp only [Act.put, List.getElem_toArray, List.getElem_cons_succ, List.getElem_cons_zero, List.setIfInBounds_toArray, List.set_cons_zero, List.set_cons_succ]
        refine wpHJ_pure (v := ?va18) 18 hFa rfl (by kernel_rfl) (fun _ _ _ h => h.elim) (Or.inl ⟨by rfl, ?ya18⟩) (.inr (HS.out w2 HB2.out)) ?ra18
        case ya18 => (intro w' _; go_simp; try rfl)
        simp only [Act.put, List.getElem_toArray, List.getElem_cons_succ, List.getElem_cons_zero, List.setIfInBounds_toArray, List.set_cons_zero, List.set_cons_succ]
        refine wpHJ_only 19 (by kernel_rfl) rfl ?_
        intro K hK
        go_simp
        refine hK _ _ (.inr (.inr (HS.out _ (HB2.out.alloc HB2.out.size _)))) ?_
        clear hK K
        refine wpHJ_pure (v := ?va20) 20 hFa rfl (by kernel_rfl) (fun _ _ _ h => h.elim) (Or.inl ⟨by rfl, ?ya20⟩) (.inr (HS.out _ (HB2.out.alloc HB2.out.size _))) ?ra20
        case ya20 => (intro w' _; go_simp; try rfl)
        simp only [Act.put, List.getElem_toArray, List.getElem_cons_succ, List.getElem_cons_zero, List.setIfInBounds_toArray, List.set_cons_zero, List.set_cons_succ]
        refine wpHJ_only 21 (by kernel_rfl) rfl ?_
        intro K hK
        go_simp
        refine hK _ _ (.inl rfl) ?_
        clear hK K
        refine wpHJ_done (by kernel_rfl) ?_ _
        simp only [onlyN, Exit.then]
        clear hFa
        go_wp2
        go_ret2
        rw [catRj]
        exact vpost_one HR.out (HB0.out.trans (HB2.out.mono HB0.out.size))
      | false =>
        obtain ⟨W0, hW0⟩ : ∃ W, w.alloc (.cells #[.int .u8 (k : Int), .int .u8 (r : Int), .int .i64 lv, .slice pA A.length cA, .slice pB B.length cB, .bool imp, .bool false, .int .i64 ln, .int .i64 co, .int .i64 (n : Int)] 35) = W := ⟨_, rfl⟩
        rw [hW0] at HB0 HT ce
        obtain ⟨b, hbb⟩ : ∃ b, w.heap.size = b := ⟨_, rfl⟩
        have hcb : W0.heap[b]? = some (.cells #[.int .u8 (k : Int), .int .u8 (r : Int), .int .i64 lv, .slice pA A.length cA, .slice pB B.length cB, .bool imp, .bool false, .int .i64 ln, .int .i64 co, .int .i64 (n : Int)] 35 (0, 0)) := by rw [← hW0, ← hbb, heap_al, if_pos rfl]
        have hbl : b < W0.heap.size := (Array.getElem?_eq_some_iff.1 hcb).1
        have c6 : W0.cell? ⟨b, 6, none⟩ = some (.bool false) := by rw [cell_of_row W0 b 6 _ _ _ hcb]; rfl
        have c7 : W0.cell? ⟨b, 7, none⟩ = some (.int .i64 ln) := by rw [cell_of_row W0 b 7 _ _ _ hcb]; rfl
        have c8 : W0.cell? ⟨b, 8, none⟩ = some (.int .i64 co) := by rw [cell_of_row W0 b 8 _ _ _ hcb]; rfl
        have c9 : W0.cell? ⟨b, 9, none⟩ = some (.int .i64 (n : Int)) := by rw [cell_of_row W0 b 9 _ _ _ hcb]; rfl
        have HI1 := hid (fun W (h : Below W0.heap.size W0 W) => itoaR_any ln W hln (HT.out.below h).pow)
        have HI2 := hid (fun W (h : Below W0.heap.size W0 W) => itoaR_any co W hco (HT.out.below h).pow)
        have HWW := hid hW0
        clear hcb hW0
        go_enter Tryd.func39, Tryd.ntmps39
        go_wp2_with fail
        rw [HWW.out]
        have HBB := hid hbb
        clear hbb
        have y0 : ¬ 9223372036854775807 < 15 + (Lib.itoa ln).length := by omega
        have y1 : ¬ 9223372036854775807 < 15 + (Lib.itoa ln).length + 1 := by omega
        have y2 : ¬ 9223372036854775807 < 15 + (Lib.itoa ln).length + 1 + (Lib.itoa co).length := by omega
        have y3 : ¬ 9223372036854775807 < 15 + (Lib.itoa ln).length + 1 + (Lib.itoa co).length + 1 := by omega
        have y4 : ¬ 9223372036854775807 < 15 + (Lib.itoa ln).length + 1 + (Lib.itoa co).length + 1 + (wErr n).length := by omega
        have HS := hid (show ∀ W', Below W0.heap.size W0 W' → (fun W' : World => (W'.cell? ⟨b, 7, none⟩ = some (.int .i64 ln) ∧ W'.cell? ⟨b, 8, none⟩ = some (.int .i64 co)) ∧ W'.cell? ⟨b, 9, none⟩ = some (.int .i64 (n : Int)) ∧ W'.cell? ⟨1, n, none⟩ = some (.string ⟨(wErr n).toArray⟩)) W' from fun W' h => ⟨⟨(h.cell (p := ⟨b, 7, none⟩) hbl).trans c7, (h.cell (p := ⟨b, 8, none⟩) hbl).trans c8⟩, (h.cell (p := ⟨b, 9, none⟩) hbl).trans c9, (h.cell (p := ⟨_, n, none⟩) (cell_size ce)).trans ce⟩)
        have hS : (fun W' : World => (W'.cell? ⟨b, 7, none⟩ = some (.int .i64 ln) ∧ W'.cell? ⟨b, 8, none⟩ = some (.int .i64 co)) ∧ W'.cell? ⟨b, 9, none⟩ = some (.int .i64 (n : Int)) ∧ W'.cell? ⟨1, n, none⟩ = some (.string ⟨(wErr n).toArray⟩)) W0.drew := ⟨⟨c7, c8⟩, c9, ce⟩
        have HR := hid (show rejectR ⟨k, r, lv, A, B, imp, false, ln, co, (n : Int)⟩ = ([wReject ++ ([32, 112, 114, 111, 103, 114, 97, 109, 32] : List UInt8) ++ Lib.itoa ln ++ ([32] : List UInt8) ++ Lib.itoa co ++ ([32] : List UInt8) ++ wErr n], 0) from by unfold rejectR; dsimp only; rw [if_neg (by omega)]; simp)
        go_wp2_with fail
        have hFa : ∀ f, Fence.wide.fn f := fun _ => trivial
        refine (wpIn_wide (n := 9)).1 ?_
        refine wpIn_onlyN ?_
        refine wpIn_region_HJ (fun W' : World => (W'.cell? ⟨b, 7, none⟩ = some (.int .i64 ln) ∧ W'.cell? ⟨b, 8, none⟩ = some (.int .i64 co)) ∧ W'.cell? ⟨b, 9, none⟩ = some (.int .i64 (n : Int)) ∧ W'.cell? ⟨1, n, none⟩ = some (.string ⟨(wErr n).toArray⟩)) 21 (by kernel_rfl) ?_
        simp only [List.size_toArray, List.length_cons, List.length_nil, Nat.reduceAdd]
        refine wpHJ_pure (v := ?vb0) 0 hFa rfl (by kernel_rfl) (fun _ _ _ h => h.elim) (Or.inl ⟨by rfl, ?yb0⟩) (.inr hS) ?rb0
        case yb0 => (intro w' _; go_simp; try rfl)
        simp only [Act.put, List.getElem_toArray, List.getElem_cons_succ, List.getElem_cons_zero, List.setIfInBounds_toArray, List.set_cons_zero, List.set_cons_succ]
        refine wpHJ_pure (v := ?vb1) 1 hFa rfl (by kernel_rfl) (fun _ _ _ h => h.elim) (Or.inl ⟨by rfl, ?yb1⟩) (.inr hS) ?rb1
        case yb1 => (intro w' _; go_simp; try rfl)
        simp only [Act.put, List.getElem_toArray, List.getElem_cons_succ, List.getElem_cons_zero, List.setIfInBounds_toArray, List.set_cons_zero, List.set_cons_succ]
        refine wpHJ_pure (v := ?vb2) 2 hFa rfl (by kernel_rfl) (fun _ _ _ h => h.elim) (Or.inl ⟨by rfl, ?yb2⟩) (.inr hS) ?rb2
        case yb2 => (intro w' _; go_simp; try rfl)
        simp only [Act.put, List.getElem_toArray, List.getElem_cons_succ, List.getElem_cons_zero, List.setIfInBounds_toArray, List.set_cons_zero, List.set_cons_succ]
        refine wpHJ_pure (v := ?vb3) 3 hFa rfl (by kernel_rfl) (fun _ _ _ h => h.elim) (Or.inl ⟨by rfl, ?yb3⟩) (.inr hS) ?rb3
        case yb3 => (intro w' _; go_simp; try rfl)
        simp only [Act.put, List.getElem_toArray, List.getElem_cons_succ, List.getElem_cons_zero, List.setIfInBounds_toArray, List.set_cons_zero, List.set_cons_succ]
        refine wpHJ_take (v := ?vb4) 4 hFa rfl (by kernel_rfl) (fun _ _ _ h => h.elim) (Or.inl ⟨by rfl, ?yb4⟩) hS ?rb4
        case yb4 => (intro w' hS'; obtain ⟨⟨s1, s2⟩, s3, s4⟩ := hS'; go_simp; try rfl)
        simp only [Act.put, List.getElem_toArray, List.getElem_cons_succ, List.getElem_cons_zero, List.setIfInBounds_toArray, List.set_cons_zero, List.set_cons_succ]
        refine wpHJ_pure (v := ?vb8) 8 hFa rfl (by kernel_rfl) (fun _ _ _ h => h.elim) (Or.inl ⟨by rfl, ?yb8⟩) (.inr hS) ?rb8
        case yb8 => (intro w' _; go_simp; try rfl)
        simp only [Act.put, List.getElem_toArray, List.getElem_cons_succ, List.getElem_cons_zero, List.setIfInBounds_toArray, List.set_cons_zero, List.set_cons_succ]
        refine wpHJ_pure (v := ?vb9) 9 hFa rfl (by kernel_rfl) (fun _ _ _ h => h.elim) (Or.inl ⟨by rfl, ?yb9⟩) (.inr hS) ?rb9
        case yb9 => (intro w' _; go_simp; try rfl)
        simp only [Act.put, List.getElem_toArray, List.getElem_cons_succ, List.getElem_cons_zero, List.setIfInBounds_toArray, List.set_cons_zero, List.set_cons_succ]
        refine wpHJ_take (v := ?vb10) 10 hFa rfl (by kernel_rfl) (fun _ _ _ h => h.elim) (Or.inl ⟨by rfl, ?yb10⟩) hS ?rb10
        case yb10 => (intro w' hS'; obtain ⟨⟨s1, s2⟩, s3, s4⟩ := hS'; go_simp; try rfl)
        simp only [Act.put, List.getElem_toArray, List.getElem_cons_succ, List.getElem_cons_zero, List.setIfInBounds_toArray, List.set_cons_zero, List.set_cons_succ]
        refine wpHJ_pure (v := ?vb14) 14 hFa rfl (by kernel_rfl) (fun _ _ _ h => h.elim) (Or.inl ⟨by rfl, ?yb14⟩) (.inr hS) ?rb14
        case yb14 => (intro w' _; go_simp; try rfl)
        simp only [Act.put, List.getElem_toArray, List.getElem_cons_succ, List.getElem_cons_zero, List.setIfInBounds_toArray, List.set_cons_zero, List.set_cons_succ]
        refine wpHJ_take (v := ?vb15) 15 hFa rfl (by kernel_rfl) (fun _ _ _ h => h.elim) (Or.inl ⟨by rfl, ?yb15⟩) hS ?rb15
        case yb15 => (intro w' hS'; obtain ⟨⟨s1, s2⟩, s3, s4⟩ := hS'; go_simp; try rfl)
        simp only [Act.put, List.getElem_toArray, List.getElem_cons_succ, List.getElem_cons_zero, List.setIfInBounds_toArray, List.set_cons_zero, List.set_cons_succ]
        refine wpHJ_pure (v := ?vb16) 16 hFa rfl (by kernel_rfl) (fun _ _ _ h => h.elim) (Or.inl ⟨by rfl, ?yb16⟩) (.inr hS) ?rb16
        case yb16 => (intro w' _; go_simp; try rfl)
        simp only [Act.put, List.getElem_toArray, List.getElem_cons_succ, List.getElem_cons_zero, List.setIfInBounds_toArray, List.set_cons_zero, List.set_cons_succ]
        refine wpHJ_take (v := ?vb17) 17 hFa rfl (by kernel_rfl) (fun _ _ _ h => h.elim) (Or.inl ⟨by rfl, ?yb17⟩) hS ?rb17
        case yb17 => (intro w' hS'; obtain ⟨⟨s1, s2⟩, s3, s4⟩ := hS'; go_simp; try rfl)
        simp only [Act.put, List.getElem_toArray, List.getElem_cons_succ, List.getElem_cons_zero, List.setIfInBounds_toArray, List.set_cons_zero, List.set_cons_succ]
        clear hS
        have HBd := hid (show Below W0.heap.size W0 W0.drew from ⟨rfl, rfl, rfl, Nat.le_refl _, fun _ _ => rfl⟩)
        generalize W0.drew = wd at *
        refine wpHJ_only 5 (by kernel_rfl) rfl ?_
        intro K hK
        go_simp
        (with_reducible refine (callsIn_wide.2 (HI1.out wd HBd.out)).mono ?_)
        rintro e w1 ⟨rfl, hb1⟩
        have HB1 := hid (HBd.out.trans (hb1.mono HBd.out.size))
        clear hb1
        refine hK _ _ (.inr (.inr (HS.out w1 HB1.out))) ?_
        clear hK K
        refine wpHJ_pure (v := ?vb6) 6 hFa rfl (by kernel_rfl) (fun _ _ _ h => h.elim) (Or.inl ⟨by rfl, ?yb6⟩) (.inr (HS.out w1 HB1.out)) ?rb6
        case yb6 => (intro w' _; go_simp; try rfl)
        simp only [Act.put, List.getElem_toArray, List.getElem_cons_succ, List.getElem_cons_zero, List.setIfInBounds_toArray, List.set_cons_zero, List.set_cons_succ]
        refine wpHJ_pure (v := ?vb7) 7 hFa rfl (by kernel_rfl) (fun _ _ _ h => h.elim) (Or.inl ⟨by rfl, ?yb7⟩) (.inr (HS.out w1 HB1.out)) ?rb7
        case yb7 => (intro w' _; go_simp; try rfl)
        simp only [Act.put, List.getElem_toArray, List.getElem_cons_succ, List.getElem_cons_zero, List.setIfInBounds_toArray, List.set_cons_zero, List.set_cons_succ]
        refine wpHJ_only 11 (by kernel_rfl) rfl ?_
        intro K hK
        go_simp
        (with_reducible refine (callsIn_wide.2 (HI2.out w1 HB1.out)).mono ?_)
        rintro e w2 ⟨rfl, hb2⟩
        have HB2 := hid (HB1.out.trans (hb2.mono HB1.out.size))
        clear hb2
        refine hK _ _ (.inr (.inr (HS.out w2 HB2.out))) ?_
        clear hK K
        refine wpHJ_pure (v := ?vb12) 12 hFa rfl (by kernel_rfl) (fun _ _ _ h => h.elim) (Or.inl ⟨by rfl, ?yb12⟩) (.inr (HS.out w2 HB2.out)) ?rb12
        case yb12 => (intro w' _; go_simp; try rfl)
        simp only [Act.put, List.getElem_toArray, List.getElem_cons_succ, List.getElem_cons_zero, List.setIfInBounds_toArray, List.set_cons_zero, List.set_cons_succ]
        refine wpHJ_pure (v := ?vb13) 13 hFa rfl (by kernel_rfl) (fun _ _ _ h => h.elim) (Or.inl ⟨by rfl, ?yb13⟩) (.inr (HS.out w2 HB2.out)) ?rb13
        case yb13 => (intro w' _; go_simp; try rfl)
        simp only [Act.put, List.getElem_toArray, List.getElem_cons_succ, List.getElem_cons_zero, List.setIfInBounds_toArray, List.set_cons_zero, List.set_cons_succ]
        refine wpHJ_pure (v := ?vb18) 18 hFa rfl (by kernel_rfl) (fun _ _ _ h => h.elim) (Or.inl ⟨by rfl, ?yb18⟩) (.inr (HS.out w2 HB2.out)) ?rb18
        case yb18 => (intro w' _; go_simp; try rfl)
        simp only [Act.put, List.getElem_toArray, List.getElem_cons_succ, List.getElem_cons_zero, List.setIfInBounds_toArray, List.set_cons_zero, List.set_cons_succ]
        refine wpHJ_only 19 (by kernel_rfl) rfl ?_
        intro K hK
        go_simp
        refine hK _ _ (.inr (.inr (HS.out _ (HB2.out.alloc HB2.out.size _)))) ?_
        clear hK K
        refine wpHJ_pure (v := ?vb20) 20 hFa rfl (by kernel_rfl) (fun _ _ _ h => h.elim) (Or.inl ⟨by rfl, ?yb20⟩) (.inr (HS.out _ (HB2.out.alloc HB2.out.size _))) ?rb20
        case yb20 => (intro w' _; go_simp; try rfl)
        simp only [Act.put, List.getElem_toArray, List.getElem_cons_succ, List.getElem_cons_zero, List.setIfInBounds_toArray, List.set_cons_zero, List.set_cons_succ]
        refine wpHJ_only 21 (by kernel_rfl) rfl ?_
        intro K hK
        go_simp
        refine hK _ _ (.inl rfl) ?_
        clear hK K
        refine wpHJ_done (by kernel_rfl) ?_ _
        simp only [onlyN, Exit.then]
        clear hFa
        go_wp2
        go_ret2
        rw [catRj]
        exact vpost_one HR.out (HB0.out.trans (HB2.out.mono HB0.out.size))

end Go.Proofs.YtehjfmbnebeioaaDoor
