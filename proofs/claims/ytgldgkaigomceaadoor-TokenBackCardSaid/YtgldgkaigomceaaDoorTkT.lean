/-
  The walks of the law's own helper: a text of words with noise between.
-/
import Derived.Test.YtgldgkaigomceaaDoorTkB
import Derived.Test.YtgldgkaigomceaaDoorTkPT
import Derived.Test.YtgldgkaigomceaaDoorKMod
namespace Go.Proofs.YtgldgkaigomceaaDoor
set_option linter.unusedSimpArgs false
set_option linter.unusedVariables false
open Go.RowKit Go.Shelf
attribute [local go_sem] Oper.semAt_some

def nzN (noise : Bs) (k : Nat) : Nat := (noise.getD (k % noise.length) 0).toNat
def cntN (noise : Bs) (k : Nat) : Nat := if noise.length = 0 then 0 else k
/-- What the closure comes to: the next byte of noise; its counter, in block c, moves. -/
def NxPost (noise : Bs) (c k : Nat) (w : World) (e : Ending) (w' : World) : Prop :=
  e = .returned (.int .i64 (nzN noise (k + 1) : Int)) ∧ w'.heap[c]? = some (.cells #[.int .i64 (cntN noise (k + 1) : Int)] 3 (0, 0)) ∧ Fr (· ≠ c) (· ≠ c) w w' ∧ w'.heap.size = w.heap.size
theorem fr_setCell (w : World) (c i : Nat) (v : Value) : Fr (· ≠ c) (· ≠ c) w (w.setCell ⟨c, i, none⟩ v) :=
  ⟨rfl, rfl, rfl, by simp, fun k hk => ⟨hk, Below.heap_setCell _ _ _ _ hk⟩⟩
theorem fr_drewN {R R' : Nat → Prop} {a b : World} (h : Fr R R' a b) (n : Nat) : Fr R R' a (b.drewN n) := ⟨h.os, h.tape, h.output, h.size, h.keep⟩

set_option maxRecDepth 100000 in
set_option maxHeartbeats 2000000 in
theorem next_any (noise : Bs) (v : Value) (b c k : Nat) (R : Nat → Prop) (w : World) (hb : w.cell? ⟨b, 0, none⟩ = some v) (hv : Bys R w v noise) (hR : ∀ j, R j → j ≠ c) (hbc : b ≠ c)
    (hc : w.heap[c]? = some (.cells #[.int .i64 (cntN noise k : Int)] 3 (0, 0))) (hk : k ≤ 1000000) :
    Calls Tryd.prog 16 #[.pointer (some ⟨b, 0, none⟩), .pointer (some ⟨c, 0, none⟩)] w (NxPost noise c k w) := by
  obtain ⟨p, cp, rfl, h1, h2, h3, hr⟩ := hv.op
  unfold maxLen at h2
  have HR := hid hr
  clear hv hr
  by_cases h0 : noise.length = 0
  · have hn : noise = [] := List.eq_nil_of_length_eq_zero h0
    subst hn
    have HC := hid hc
    clear h0 h1 h2 h3 hc
    go_enter Tryd.func16, Tryd.ntmps16
    go_wp2
    go_ret
    exact ⟨rfl, HC.out, Fr.refl _ _, rfl⟩
  · have hl : 0 < noise.length := by omega
    have e1 : ((noise.length : Int) == 0) = false := by rw [beq_eq_false_iff_ne]; omega
    have ec : cntN noise k = k := by unfold cntN; rw [if_neg h0]
    have HE := hid (show cntN noise (k + 1) = k + 1 from by unfold cntN; rw [if_neg h0])
    rw [ec] at hc
    obtain ⟨d1, d2⟩ := cell_lit1 hc
    have hq : (k + 1) % noise.length < noise.length := Nat.mod_lt _ hl
    obtain ⟨b0, o0, rfl, hR0, hcc⟩ := HR.out.at8 ((k + 1) % noise.length) hq
    have hx := hcc ((k + 1) % noise.length) hq
    have HN := hid (show nzN noise (k + 1) = noise[(k + 1) % noise.length].toNat from by unfold nzN List.getD; rw [List.getElem?_eq_getElem hq]; rfl)
    have hxb := noise[(k + 1) % noise.length].toNat_lt
    generalize noise[(k + 1) % noise.length] = x at *
    obtain ⟨q, hqe⟩ : ∃ q, (k + 1) % noise.length = q := ⟨_, rfl⟩
    rw [hqe] at hx hq
    have hm2 : ((k : Int) + 1) % (noise.length : Int) = (q : Int) := by
      have := Int.natCast_emod (k + 1) noise.length
      rw [hqe] at this
      rw [show (k : Int) + 1 = ((k + 1 : Nat) : Int) by omega]
      exact this.symm
    have hm : Int.tmod ((k : Int) + 1) (noise.length : Int) = (q : Int) := by rw [Int.tmod_eq_emod_of_nonneg (by omega)]; exact hm2
    have hbc' := hR b0 hR0
    have hx' : (w.setCell ⟨c, 0, none⟩ (.int .i64 ((k : Int) + 1))).cell? ⟨b0, o0 + q, none⟩ = some (.int .u8 (x.toNat : Int)) := (World.cell?_setCell_other _ _ _ _ (by intro e; injection e; omega)).trans hx
    have hb' : (w.setCell ⟨c, 0, none⟩ (.int .i64 ((k : Int) + 1))).cell? ⟨b, 0, none⟩ = some (.slice (some ⟨b0, o0, none⟩) noise.length cp) := (World.cell?_setCell_other _ _ _ _ (by intro e; injection e; omega)).trans hb
    have hd' : (w.setCell ⟨c, 0, none⟩ (.int .i64 ((k : Int) + 1))).cell? ⟨c, 0, none⟩ = some (.int .i64 ((k : Int) + 1)) := World.cell?_setCell_same _ _ _ d1
    have HS := hid (heap_setCell_at 0 (.int .i64 ((k : Int) + 1)) hc)
    clear hcc hqe hc hx h0 ec
    go_enter Tryd.func16, Tryd.ntmps16
    go_wp2_with fail
    go_quiet (fail)
    go_wp2
    go_ret
    refine ⟨ret_i (by rw [HN.out]), ?_, fr_drewN (fr_setCell _ _ _ _) _, by show (World.setCell _ _ _).heap.size = _; simp⟩
    show (World.setCell _ _ _).heap[c]? = _
    rw [HS.out, HE.out]
    rfl

/-- The helper's own blocks: its noise, boxed, and its counter. -/
structure Tx (w0 : World) (vn : Value) (noise : Bs) (k : Nat) (W : World) : Prop where
  b5 : W.heap[w0.heap.size]? = some (.cells #[vn] 22 (0, 0))
  b8 : W.heap[w0.heap.size + 1]? = some (.cells #[.int .i64 (cntN noise k : Int)] 3 (0, 0))
  bel : Below w0.heap.size w0 W
  size : w0.heap.size + 2 ≤ W.heap.size
def Keep (c : Nat) (W W' : World) : Prop := (∀ j, j ≠ c → W'.heap[j]? = W.heap[j]?) ∧ W'.heap.size = W.heap.size
theorem Tx.alloc {w0 : World} {vn : Value} {noise : Bs} {k : Nat} {W : World} (h : Tx w0 vn noise k W) (o : Obj) : Tx w0 vn noise k (W.alloc o) := by
  have := h.size
  exact ⟨by rw [heap_al, if_neg (by omega)]; exact h.b5, by rw [heap_al, if_neg (by omega)]; exact h.b8, h.bel.alloc h.bel.size _, by rw [World.size_alloc]; omega⟩
theorem Tx.drew {w0 : World} {vn : Value} {noise : Bs} {k : Nat} {W : World} (h : Tx w0 vn noise k W) : Tx w0 vn noise k W.drew := ⟨h.b5, h.b8, h.bel.drew, h.size⟩
theorem Tx.nx {w0 : World} {vn : Value} {noise : Bs} {k : Nat} {W : World} {R : Nat → Prop} (hv : Bys R w0 vn noise) (hR : ∀ j, R j → j < w0.heap.size) (h : Tx w0 vn noise k W) (hk : k ≤ 1000000) :
    Calls Tryd.prog 16 #[.pointer (some ⟨w0.heap.size, 0, none⟩), .pointer (some ⟨w0.heap.size + 1, 0, none⟩)] W fun e W' => e = .returned (.int .i64 (nzN noise (k + 1) : Int)) ∧ Tx w0 vn noise (k + 1) W' ∧ Keep (w0.heap.size + 1) W W' := by
  have hs := h.size
  refine (next_any noise vn w0.heap.size (w0.heap.size + 1) k R W (cell_lit1 h.b5).1 (hv.keep fun j hj => ⟨hj, h.bel.block j (hR j hj)⟩) (fun j hj => by have := hR j hj; omega) (by omega) h.b8 hk).mono ?_
  rintro e W' ⟨he, hc, hf, hz⟩
  have hkp := fun j (hj : j ≠ w0.heap.size + 1) => (hf.keep j hj).2
  exact ⟨he, ⟨(hkp _ (by omega)).trans h.b5, hc, h.bel.trans (⟨hf.os, hf.tape, hf.output, by omega, fun j hj => hkp j (by omega)⟩ : Below w0.heap.size W W'), by omega⟩, hkp, hz⟩
/-- Four strings that are written out. -/
def Lit4 (b : Nat) (f : Nat → Bs) (W : World) : Prop := W.heap[b]? = some (.cells #[strV (f 0), strV (f 1), strV (f 2), strV (f 3)] 9 (0, 0))
theorem Lit4.at {b : Nat} {f : Nat → Bs} {W : World} (h : Lit4 b f W) (q : Nat) (hq : q < 4) : W.cell? ⟨b, q, none⟩ = some (.string ⟨(f q).toArray⟩) := by
  rw [cell_of_row W b q _ _ _ h]
  have : q = 0 ∨ q = 1 ∨ q = 2 ∨ q = 3 := by omega
  rcases this with rfl | rfl | rfl | rfl <;> rfl
theorem Lit4.size {b : Nat} {f : Nat → Bs} {W : World} (h : Lit4 b f W) : b < W.heap.size := (Array.getElem?_eq_some_iff.1 h).1
theorem Lit4.alloc {b : Nat} {f : Nat → Bs} {W : World} (h : Lit4 b f W) (o : Obj) : Lit4 b f (W.alloc o) := by
  unfold Lit4
  have := h.size
  rw [heap_al, if_neg (by omega)]; exact h
theorem Lit4.nx {b c : Nat} {f : Nat → Bs} {W W' : World} (h : Lit4 b f W) (hk : Keep c W W') (hbc : b ≠ c) : Lit4 b f W' := (hk.1 b hbc).trans h

theorem mod_wrap {i per : Nat} (h : i % per + 1 = per) : (i + 1) % per = 0 := by
  have := Nat.div_add_mod i per
  rw [show i + 1 = per * (i / per + 1) by rw [Nat.mul_add]; omega]
  exact Nat.mul_mod_right _ _
theorem mod_step {i per : Nat} (h : i % per + 1 < per) : (i + 1) % per = i % per + 1 := by
  have := Nat.div_add_mod i per
  rw [show i + 1 = (i % per + 1) + per * (i / per) by omega, Nat.add_mul_mod_self_left, Nat.mod_eq_of_lt h]
theorem catE (O x a b : Bs) : (⟨O.toArray⟩ : ByteArray) ++ ⟨x.toArray⟩ ++ (⟨a.toArray⟩ ++ ⟨#[10]⟩ ++ ⟨b.toArray⟩) = ⟨(O ++ (x ++ (a ++ 10 :: b))).toArray⟩ := by
  simp only [ByteArray.mk_append_mk]; simp
theorem catA (O x a : Bs) : (⟨O.toArray⟩ : ByteArray) ++ ⟨x.toArray⟩ ++ (⟨#[32]⟩ ++ ⟨a.toArray⟩) = ⟨(O ++ (x ++ 32 :: a)).toArray⟩ := by
  simp only [ByteArray.mk_append_mk]; simp
set_option maxRecDepth 100000 in
set_option maxHeartbeats 8000000 in
theorem text_any (words : List Bs) (noise : Bs) (per : Nat) (vw vn : Value) (R : Nat → Prop) (w : World) (hw : Sl R w vw (words.map strV)) (hn : Bys R w vn noise) (hR : ∀ j, R j → j < w.heap.size)
    (hp : 1 ≤ per ∧ per ≤ 5) (hl : words.length ≤ 60) (h3 : ∀ x ∈ words, x.length ≤ 3) :
    Calls Tryd.prog 7 #[vw, .int .i64 (per : Int), vn] w fun e w' => e = .returned (.string ⟨(textR per (nzN noise) words 0 0).toArray⟩) ∧ Below w.heap.size w w' := by
  obtain ⟨p, c, rfl, h1, h2, h4, hr⟩ := hw
  rw [List.length_map] at h1 h4 ⊢
  unfold maxLen at h2
  obtain ⟨pn, cn, rfl, _, _, _, _⟩ := hn.op
  have HR := hid hr
  have HNX := hid (fun k W (h : Tx w (.slice pn noise.length cn) noise k W) hk => h.nx hn hR hk)
  have htl := textR_len per (nzN noise) words 0 0 h3
  obtain ⟨T, hT⟩ : ∃ T, textR per (nzN noise) words 0 0 = T := ⟨_, rfl⟩
  rw [hT] at htl ⊢
  have HT0 := hid (show ([] : Bs) ++ textR per (nzN noise) (words.drop 0) (0 % per) 0 = T from by rw [Nat.zero_mod]; exact hT)
  have H3 := hid h3
  clear hr hn hT h3
  go_enter Tryd.func7, Tryd.ntmps7
  go_wp2_with fail
  have htx0 : Tx w (.slice pn noise.length cn) noise 0 ((w.alloc (.cells #[.slice pn noise.length cn] 22)).alloc (.cells #[.int .i64 0] 3)) := by
    refine ⟨by rw [heap_al, if_neg (by simp only [World.size_alloc]; omega), heap_al, if_pos rfl], ?_, ((Below.refl _ _).alloc (Nat.le_refl _) _).alloc (by simp only [World.size_alloc]; omega) _, by simp only [World.size_alloc]; omega⟩
    rw [heap_al, if_pos (by simp only [World.size_alloc])]
    unfold cntN; split <;> rfl
  have HTX0 := hid htx0
  clear htx0
  generalize World.alloc _ _ = W0 at *
  go_loopw [7, 10] (fun ov iv W => ∃ (i : Nat) (O : Bs) (k : Nat), i ≤ words.length ∧ iv = .int .i64 i ∧ ov = .string ⟨O.toArray⟩ ∧ O ++ textR per (nzN noise) (words.drop i) (i % per) k = T ∧ k ≤ 2 * i ∧ Tx w (.slice pn noise.length cn) noise k W) (fun _ iv _ => words.length - (intOf iv).toNat)
  case atStart => exact ⟨0, [], 0, Nat.zero_le _, rfl, rfl, HT0.out, by omega, HTX0.out⟩
  case round =>
    obtain ⟨i, O, k, hi, rfl, rfl, ht, hk, htx⟩ := hrel
    obtain ⟨wo, rfl⟩ : ∃ wo : World, wo = wr := ⟨_, rfl⟩
    have hOl : O.length ≤ 840 := by have := congrArg List.length ht; rw [List.length_append] at this; omega
    have HTX := hid htx
    clear htx HT0 HTX0
    by_cases hil : i < words.length
    · obtain ⟨b0, o0, rfl, hR0, hcc⟩ := HR.out.at i (by simpa using hil)
      have hcell : wo.cell? ⟨b0, o0 + i, none⟩ = some (.string ⟨words[i].toArray⟩) := (HTX.out.bel.cell (p := ⟨b0, o0 + i, none⟩) (hR _ hR0)).trans (by rw [hcc i (by simpa using hil)]; simp [strV])
      rw [List.drop_eq_getElem_cons hil] at ht
      have hx3 := H3.out _ (List.getElem_mem hil)
      clear hcc
      generalize words[i] = x at *
      have hzO : (⟨O.toArray⟩ : ByteArray).size = O.length := size_mk O
      have hzx : (⟨x.toArray⟩ : ByteArray).size = x.length := size_mk x
      have hmod : ((i : Int) + 1) % (per : Int) = (((i + 1) % per : Nat) : Int) := by
        have := Int.natCast_emod (i + 1) per
        rw [show (i : Int) + 1 = ((i + 1 : Nat) : Int) by omega]; exact this.symm
      have hmt : Int.tmod ((i : Int) + 1) (per : Int) = (((i + 1) % per : Nat) : Int) := by rw [Int.tmod_eq_emod_of_nonneg (by omega)]; exact hmod
      have hjl : i % per < per := Nat.mod_lt _ (by omega)
      have hne0 : ((per : Int) == 0) = false := by rw [beq_eq_false_iff_ne]; omega
      obtain ⟨n1, hn1⟩ : ∃ n, nzN noise (k + 1) = n := ⟨_, rfl⟩
      have hb1 : n1 ≤ 255 := by rw [← hn1]; unfold nzN; have := (noise.getD ((k + 1) % noise.length) 0).toNat_lt; omega
      have HX1 := hid (fun W (h : Tx w (.slice pn noise.length cn) noise k W) => HNX.out k W h (by omega))
      rw [hn1] at HX1
      obtain ⟨q1, hq1e⟩ : ∃ q, n1 % 4 = q := ⟨_, rfl⟩
      have hq1 : q1 < 4 := by omega
      have hqt1 : Int.tmod (n1 : Int) 4 = (q1 : Int) := by rw [Int.tmod_eq_emod_of_nonneg (by omega)]; omega
      have hqm1 : (n1 : Int) % 4 = (q1 : Int) := by omega
      unfold textR at ht
      rw [hn1, hq1e] at ht
      by_cases hj : i % per + 1 = per
      · rw [if_pos hj] at ht
        have hm0 := mod_wrap hj
        rw [hm0] at hmod hmt
        obtain ⟨n2, hn2⟩ : ∃ n, nzN noise (k + 2) = n := ⟨_, rfl⟩
        have hb2 : n2 ≤ 255 := by rw [← hn2]; unfold nzN; have := (noise.getD ((k + 2) % noise.length) 0).toNat_lt; omega
        have HX2 := hid (fun W (h : Tx w (.slice pn noise.length cn) noise (k + 1) W) => HNX.out (k + 1) W h (by omega))
        rw [show k + 1 + 1 = k + 2 from rfl, hn2] at HX2
        obtain ⟨q2, hq2e⟩ : ∃ q, n2 % 4 = q := ⟨_, rfl⟩
        have hq2 : q2 < 4 := by omega
        have hqt2 : Int.tmod (n2 : Int) 4 = (q2 : Int) := by rw [Int.tmod_eq_emod_of_nonneg (by omega)]; omega
        have hqm2 : (n2 : Int) % 4 = (q2 : Int) := by omega
        rw [hn2, hq2e] at ht
        have HTT := hid (show (O ++ (x ++ (sepE q1 ++ 10 :: sepL q2))) ++ textR per (nzN noise) (words.drop (i + 1)) ((i + 1) % per) (k + 2) = T from by rw [hm0, ← ht]; simp)
        have hzE := sepE_len q1
        have hzE2 : (⟨(sepE q1).toArray⟩ : ByteArray).size = (sepE q1).length := size_mk _
        have hzL := sepL_len q2
        have hzL2 : (⟨(sepL q2).toArray⟩ : ByteArray).size = (sepL q2).length := size_mk _
        have hi1 : ((i : Int) + 1) % (per : Int) = 0 := by rw [hmod]; rfl
        have hi2 : Int.tmod ((i : Int) + 1) (per : Int) = 0 := by rw [hmt]; rfl
        have hqi1 : (q1 : Int) < 4 := by omega
        have hqi2 : (q2 : Int) < 4 := by omega
        have z1 : ¬ 9223372036854775807 < (sepE q1).length + 1 := by omega
        have z2 : ¬ 9223372036854775807 < (sepE q1).length + 1 + (sepL q2).length := by omega
        have z3 : ¬ 9223372036854775807 < O.length + x.length + ((sepE q1).length + 1 + (sepL q2).length) := by omega
        clear ht hmod hmt hn1 hn2 hq1e hq2e hm0
        go_wp2_with fail
        have hFa : ∀ f, Fence.wide.fn f := fun _ => trivial
        have HTD := hid HTX.out.drew
        refine (wpIn_wide (n := 9)).1 ?_
        refine wpIn_onlyN ?_
        refine wpIn_region_HJ (fun _ => True) 16 (by kernel_rfl) ?_
        simp only [List.size_toArray, List.length_cons, List.length_nil, Nat.reduceAdd]
        generalize wo.drew = wd at *
        refine wpHJ_pure (v := ?vg0_1) 0 hFa rfl (by kernel_rfl) (fun _ _ _ h => h.elim) (Or.inl ⟨by rfl, ?yg0_1⟩) (.inr trivial) ?rg0_1
        case yg0_1 => (intro w' _; go_simp; try rfl)
        simp only [Act.put, List.getElem_toArray, List.getElem_cons_succ, List.getElem_cons_zero, List.setIfInBounds_toArray, List.set_cons_zero, List.set_cons_succ]
        refine wpHJ_pure (v := ?vg2_3) 2 hFa rfl (by kernel_rfl) (fun _ _ _ h => h.elim) (Or.inl ⟨by rfl, ?yg2_3⟩) (.inr trivial) ?rg2_3
        case yg2_3 => (intro w' _; go_simp; try rfl)
        simp only [Act.put, List.getElem_toArray, List.getElem_cons_succ, List.getElem_cons_zero, List.setIfInBounds_toArray, List.set_cons_zero, List.set_cons_succ]
        refine wpHJ_pure (v := ?vg9_7) 9 hFa rfl (by kernel_rfl) (fun _ _ _ h => h.elim) (Or.inl ⟨by rfl, ?yg9_7⟩) (.inr trivial) ?rg9_7
        case yg9_7 => (intro w' _; go_simp; try rfl)
        simp only [Act.put, List.getElem_toArray, List.getElem_cons_succ, List.getElem_cons_zero, List.setIfInBounds_toArray, List.set_cons_zero, List.set_cons_succ]
        refine wpHJ_three 1 3 8 (by kernel_rfl) rfl rfl rfl ?_ ?_ ?_
        · intro K hK
          go_simp
          have HT11 := hid (HTD.out.alloc (.cells #[.string ⟨#[]⟩, .string ⟨#[32]⟩, .string ⟨#[35, 120]⟩, .string ⟨#[32, 35, 32, 255, 0, 32, 35]⟩] 9))
          have HL11 := hid (show Lit4 wd.heap.size sepE (wd.alloc (.cells #[.string ⟨#[]⟩, .string ⟨#[32]⟩, .string ⟨#[35, 120]⟩, .string ⟨#[32, 35, 32, 255, 0, 32, 35]⟩] 9)) from by unfold Lit4; rw [heap_al, if_pos rfl]; rfl)
          have hge11 : w.heap.size + 2 ≤ wd.heap.size := HTD.out.size
          generalize wd.alloc _ = w11 at *
          generalize wd.heap.size = n11 at *
          refine hK _ _ (.inr (.inr trivial)) ?_
          clear hK K
          refine wpHJ_both 3 8 (by kernel_rfl) rfl rfl ?_ ?_
          · intro K hK
            go_simp
            (with_reducible refine (callsIn_wide.2 (HX1.out w11 HT11.out)).mono ?_)
            rintro e w14 ⟨rfl, hT14, hkp14⟩
            have HT14 := hid hT14
            have HOa14 := hid (HL11.out.nx hkp14 (by omega))
            clear hT14 hkp14
            refine hK _ _ (.inr (.inr trivial)) ?_
            clear hK K
            refine wpHJ_pure (v := ?vg4_15) 4 hFa rfl (by kernel_rfl) (fun _ _ _ h => h.elim) (Or.inl ⟨by rfl, ?yg4_15⟩) (.inr trivial) ?rg4_15
            case yg4_15 => (intro w' _; go_simp; try rfl)
            simp only [Act.put, List.getElem_toArray, List.getElem_cons_succ, List.getElem_cons_zero, List.setIfInBounds_toArray, List.set_cons_zero, List.set_cons_succ]
            refine wpHJ_pure (v := ?vg5_16) 5 hFa rfl (by kernel_rfl) (fun _ _ _ h => h.elim) (Or.inl ⟨by rfl, ?yg5_16⟩) (.inr trivial) ?rg5_16
            case yg5_16 => (intro w' _; go_simp; try rfl)
            simp only [Act.put, List.getElem_toArray, List.getElem_cons_succ, List.getElem_cons_zero, List.setIfInBounds_toArray, List.set_cons_zero, List.set_cons_succ]
            refine wpHJ_more (fun W' : World => W'.cell? ⟨n11, q1, none⟩ = some (.string ⟨(sepE q1).toArray⟩)) (fun _ _ => trivial) _ _ _ _ ?_
            refine wpHJ_take (v := ?vg6_17) 6 hFa rfl (by kernel_rfl) (fun _ _ _ h => h.elim) (Or.inl ⟨by rfl, ?yg6_17⟩) (HOa14.out.at q1 hq1) ?rg6_17
            case yg6_17 => (intro w' hS'; obtain s1 := hS'; go_simp; try rfl)
            simp only [Act.put, List.getElem_toArray, List.getElem_cons_succ, List.getElem_cons_zero, List.setIfInBounds_toArray, List.set_cons_zero, List.set_cons_succ]
            refine wpHJ_pure (v := ?vg7_18) 7 hFa rfl (by kernel_rfl) (fun _ _ _ h => h.elim) (Or.inl ⟨by rfl, ?yg7_18⟩) (.inr (HOa14.out.at q1 hq1)) ?rg7_18
            case yg7_18 => (intro w' _; go_simp; try rfl)
            simp only [Act.put, List.getElem_toArray, List.getElem_cons_succ, List.getElem_cons_zero, List.setIfInBounds_toArray, List.set_cons_zero, List.set_cons_succ]
            refine wpHJ_both 8 10 (by kernel_rfl) rfl rfl ?_ ?_
            · intro K hK
              go_simp
              have HT21 := hid (HT14.out.alloc (.cells #[.string ⟨#[]⟩, .string ⟨#[10]⟩, .string ⟨#[32, 9, 10]⟩, .string ⟨#[35, 10]⟩] 9))
              have HL21 := hid (show Lit4 w14.heap.size sepL (w14.alloc (.cells #[.string ⟨#[]⟩, .string ⟨#[10]⟩, .string ⟨#[32, 9, 10]⟩, .string ⟨#[35, 10]⟩] 9)) from by unfold Lit4; rw [heap_al, if_pos rfl]; rfl)
              have hge21 : w.heap.size + 2 ≤ w14.heap.size := HT14.out.size
              have HO21 := hid (HOa14.out.alloc (.cells #[.string ⟨#[]⟩, .string ⟨#[10]⟩, .string ⟨#[32, 9, 10]⟩, .string ⟨#[35, 10]⟩] 9))
              generalize w14.alloc _ = w21 at *
              generalize w14.heap.size = n21 at *
              refine hK _ _ (.inr (.inr (HO21.out.at q1 hq1))) ?_
              clear hK K
              refine wpHJ_only 10 (by kernel_rfl) rfl ?_
              intro K hK
              go_simp
              (with_reducible refine (callsIn_wide.2 (HX2.out w21 HT21.out)).mono ?_)
              rintro e w23 ⟨rfl, hT23, hkp23⟩
              have HT23 := hid hT23
              have HOa23 := hid (HO21.out.nx hkp23 (by omega))
              have HOb23 := hid (HL21.out.nx hkp23 (by omega))
              clear hT23 hkp23
              refine hK _ _ (.inr (.inr (HOa23.out.at q1 hq1))) ?_
              clear hK K
              refine wpHJ_pure (v := ?vg11_24) 11 hFa rfl (by kernel_rfl) (fun _ _ _ h => h.elim) (Or.inl ⟨by rfl, ?yg11_24⟩) (.inr (HOa23.out.at q1 hq1)) ?rg11_24
              case yg11_24 => (intro w' _; go_simp; try rfl)
              simp only [Act.put, List.getElem_toArray, List.getElem_cons_succ, List.getElem_cons_zero, List.setIfInBounds_toArray, List.set_cons_zero, List.set_cons_succ]
              refine wpHJ_pure (v := ?vg12_25) 12 hFa rfl (by kernel_rfl) (fun _ _ _ h => h.elim) (Or.inl ⟨by rfl, ?yg12_25⟩) (.inr (HOa23.out.at q1 hq1)) ?rg12_25
              case yg12_25 => (intro w' _; go_simp; try rfl)
              simp only [Act.put, List.getElem_toArray, List.getElem_cons_succ, List.getElem_cons_zero, List.setIfInBounds_toArray, List.set_cons_zero, List.set_cons_succ]
              refine wpHJ_more (fun W' : World => W'.cell? ⟨n21, q2, none⟩ = some (.string ⟨(sepL q2).toArray⟩) ∧ W'.cell? ⟨n11, q1, none⟩ = some (.string ⟨(sepE q1).toArray⟩)) (fun _ h => h.2) _ _ _ _ ?_
              refine wpHJ_take (v := ?vg13_26) 13 hFa rfl (by kernel_rfl) (fun _ _ _ h => h.elim) (Or.inl ⟨by rfl, ?yg13_26⟩) ⟨(HOb23.out.at q2 hq2), (HOa23.out.at q1 hq1)⟩ ?rg13_26
              case yg13_26 => (intro w' hS'; obtain ⟨s1, _⟩ := hS'; go_simp; try rfl)
              simp only [Act.put, List.getElem_toArray, List.getElem_cons_succ, List.getElem_cons_zero, List.setIfInBounds_toArray, List.set_cons_zero, List.set_cons_succ]
              refine wpHJ_pure (v := ?vg14_27) 14 hFa rfl (by kernel_rfl) (fun _ _ _ h => h.elim) (Or.inl ⟨by rfl, ?yg14_27⟩) (.inr ⟨(HOb23.out.at q2 hq2), (HOa23.out.at q1 hq1)⟩) ?rg14_27
              case yg14_27 => (intro w' _; go_simp; try rfl)
              simp only [Act.put, List.getElem_toArray, List.getElem_cons_succ, List.getElem_cons_zero, List.setIfInBounds_toArray, List.set_cons_zero, List.set_cons_succ]
              refine wpHJ_pure (v := ?vg15_28) 15 hFa rfl (by kernel_rfl) (fun _ _ _ h => h.elim) (Or.inl ⟨by rfl, ?yg15_28⟩) (.inr ⟨(HOb23.out.at q2 hq2), (HOa23.out.at q1 hq1)⟩) ?rg15_28
              case yg15_28 => (intro w' _; go_simp; try rfl)
              simp only [Act.put, List.getElem_toArray, List.getElem_cons_succ, List.getElem_cons_zero, List.setIfInBounds_toArray, List.set_cons_zero, List.set_cons_succ]
              refine wpHJ_only 16 (by kernel_rfl) rfl ?_
              intro K hK
              go_simp
              refine hK _ _ (.inl rfl) ?_
              clear hK K
              refine wpHJ_done (by kernel_rfl) ?_ _
              simp only [onlyN, Exit.then]
              clear hFa
              go_wp2
              have HTF := HT23
              go_roundw
              case rel => exact ⟨i + 1, O ++ (x ++ (sepE q1 ++ 10 :: sepL q2)), k + 2, by omega, by go_num, by rw [catE], HTT.out, by omega, HTF.out⟩
              case measure => simp [intOf]; omega
            · intro K hK
              go_simp
              (with_reducible refine (callsIn_wide.2 (HX2.out w14 HT14.out)).mono ?_)
              rintro e w31 ⟨rfl, hT31, hkp31⟩
              have HT31 := hid hT31
              have HOa31 := hid (HOa14.out.nx hkp31 (by omega))
              clear hT31 hkp31
              refine hK _ _ (.inr (.inr (HOa31.out.at q1 hq1))) ?_
              clear hK K
              refine wpHJ_pure (v := ?vg11_33) 11 hFa rfl (by kernel_rfl) (fun _ _ _ h => h.elim) (Or.inl ⟨by rfl, ?yg11_33⟩) (.inr (HOa31.out.at q1 hq1)) ?rg11_33
              case yg11_33 => (intro w' _; go_simp; try rfl)
              simp only [Act.put, List.getElem_toArray, List.getElem_cons_succ, List.getElem_cons_zero, List.setIfInBounds_toArray, List.set_cons_zero, List.set_cons_succ]
              refine wpHJ_only 8 (by kernel_rfl) rfl ?_
              intro K hK
              go_simp
              have HT35 := hid (HT31.out.alloc (.cells #[.string ⟨#[]⟩, .string ⟨#[10]⟩, .string ⟨#[32, 9, 10]⟩, .string ⟨#[35, 10]⟩] 9))
              have HL35 := hid (show Lit4 w31.heap.size sepL (w31.alloc (.cells #[.string ⟨#[]⟩, .string ⟨#[10]⟩, .string ⟨#[32, 9, 10]⟩, .string ⟨#[35, 10]⟩] 9)) from by unfold Lit4; rw [heap_al, if_pos rfl]; rfl)
              have hge35 : w.heap.size + 2 ≤ w31.heap.size := HT31.out.size
              have HO35 := hid (HOa31.out.alloc (.cells #[.string ⟨#[]⟩, .string ⟨#[10]⟩, .string ⟨#[32, 9, 10]⟩, .string ⟨#[35, 10]⟩] 9))
              generalize w31.alloc _ = w35 at *
              generalize w31.heap.size = n35 at *
              refine hK _ _ (.inr (.inr (HO35.out.at q1 hq1))) ?_
              clear hK K
              refine wpHJ_pure (v := ?vg12_36) 12 hFa rfl (by kernel_rfl) (fun _ _ _ h => h.elim) (Or.inl ⟨by rfl, ?yg12_36⟩) (.inr (HO35.out.at q1 hq1)) ?rg12_36
              case yg12_36 => (intro w' _; go_simp; try rfl)
              simp only [Act.put, List.getElem_toArray, List.getElem_cons_succ, List.getElem_cons_zero, List.setIfInBounds_toArray, List.set_cons_zero, List.set_cons_succ]
              refine wpHJ_more (fun W' : World => W'.cell? ⟨n35, q2, none⟩ = some (.string ⟨(sepL q2).toArray⟩) ∧ W'.cell? ⟨n11, q1, none⟩ = some (.string ⟨(sepE q1).toArray⟩)) (fun _ h => h.2) _ _ _ _ ?_
              refine wpHJ_take (v := ?vg13_37) 13 hFa rfl (by kernel_rfl) (fun _ _ _ h => h.elim) (Or.inl ⟨by rfl, ?yg13_37⟩) ⟨(HL35.out.at q2 hq2), (HO35.out.at q1 hq1)⟩ ?rg13_37
              case yg13_37 => (intro w' hS'; obtain ⟨s1, _⟩ := hS'; go_simp; try rfl)
              simp only [Act.put, List.getElem_toArray, List.getElem_cons_succ, List.getElem_cons_zero, List.setIfInBounds_toArray, List.set_cons_zero, List.set_cons_succ]
              refine wpHJ_pure (v := ?vg14_38) 14 hFa rfl (by kernel_rfl) (fun _ _ _ h => h.elim) (Or.inl ⟨by rfl, ?yg14_38⟩) (.inr ⟨(HL35.out.at q2 hq2), (HO35.out.at q1 hq1)⟩) ?rg14_38
              case yg14_38 => (intro w' _; go_simp; try rfl)
              simp only [Act.put, List.getElem_toArray, List.getElem_cons_succ, List.getElem_cons_zero, List.setIfInBounds_toArray, List.set_cons_zero, List.set_cons_succ]
              refine wpHJ_pure (v := ?vg15_39) 15 hFa rfl (by kernel_rfl) (fun _ _ _ h => h.elim) (Or.inl ⟨by rfl, ?yg15_39⟩) (.inr ⟨(HL35.out.at q2 hq2), (HO35.out.at q1 hq1)⟩) ?rg15_39
              case yg15_39 => (intro w' _; go_simp; try rfl)
              simp only [Act.put, List.getElem_toArray, List.getElem_cons_succ, List.getElem_cons_zero, List.setIfInBounds_toArray, List.set_cons_zero, List.set_cons_succ]
              refine wpHJ_only 16 (by kernel_rfl) rfl ?_
              intro K hK
              go_simp
              refine hK _ _ (.inl rfl) ?_
              clear hK K
              refine wpHJ_done (by kernel_rfl) ?_ _
              simp only [onlyN, Exit.then]
              clear hFa
              go_wp2
              have HTF := HT35
              go_roundw
              case rel => exact ⟨i + 1, O ++ (x ++ (sepE q1 ++ 10 :: sepL q2)), k + 2, by omega, by go_num, by rw [catE], HTT.out, by omega, HTF.out⟩
              case measure => simp [intOf]; omega
          · intro K hK
            go_simp
            have HT42 := hid (HT11.out.alloc (.cells #[.string ⟨#[]⟩, .string ⟨#[10]⟩, .string ⟨#[32, 9, 10]⟩, .string ⟨#[35, 10]⟩] 9))
            have HL42 := hid (show Lit4 w11.heap.size sepL (w11.alloc (.cells #[.string ⟨#[]⟩, .string ⟨#[10]⟩, .string ⟨#[32, 9, 10]⟩, .string ⟨#[35, 10]⟩] 9)) from by unfold Lit4; rw [heap_al, if_pos rfl]; rfl)
            have hge42 : w.heap.size + 2 ≤ w11.heap.size := HT11.out.size
            have HO42 := hid (HL11.out.alloc (.cells #[.string ⟨#[]⟩, .string ⟨#[10]⟩, .string ⟨#[32, 9, 10]⟩, .string ⟨#[35, 10]⟩] 9))
            generalize w11.alloc _ = w42 at *
            generalize w11.heap.size = n42 at *
            refine hK _ _ (.inr (.inr trivial)) ?_
            clear hK K
            refine wpHJ_only 3 (by kernel_rfl) rfl ?_
            intro K hK
            go_simp
            (with_reducible refine (callsIn_wide.2 (HX1.out w42 HT42.out)).mono ?_)
            rintro e w44 ⟨rfl, hT44, hkp44⟩
            have HT44 := hid hT44
            have HOa44 := hid (HO42.out.nx hkp44 (by omega))
            have HOb44 := hid (HL42.out.nx hkp44 (by omega))
            clear hT44 hkp44
            refine hK _ _ (.inr (.inr trivial)) ?_
            clear hK K
            refine wpHJ_pure (v := ?vg4_45) 4 hFa rfl (by kernel_rfl) (fun _ _ _ h => h.elim) (Or.inl ⟨by rfl, ?yg4_45⟩) (.inr trivial) ?rg4_45
            case yg4_45 => (intro w' _; go_simp; try rfl)
            simp only [Act.put, List.getElem_toArray, List.getElem_cons_succ, List.getElem_cons_zero, List.setIfInBounds_toArray, List.set_cons_zero, List.set_cons_succ]
            refine wpHJ_pure (v := ?vg5_46) 5 hFa rfl (by kernel_rfl) (fun _ _ _ h => h.elim) (Or.inl ⟨by rfl, ?yg5_46⟩) (.inr trivial) ?rg5_46
            case yg5_46 => (intro w' _; go_simp; try rfl)
            simp only [Act.put, List.getElem_toArray, List.getElem_cons_succ, List.getElem_cons_zero, List.setIfInBounds_toArray, List.set_cons_zero, List.set_cons_succ]
            refine wpHJ_more (fun W' : World => W'.cell? ⟨n11, q1, none⟩ = some (.string ⟨(sepE q1).toArray⟩)) (fun _ _ => trivial) _ _ _ _ ?_
            refine wpHJ_take (v := ?vg6_47) 6 hFa rfl (by kernel_rfl) (fun _ _ _ h => h.elim) (Or.inl ⟨by rfl, ?yg6_47⟩) (HOa44.out.at q1 hq1) ?rg6_47
            case yg6_47 => (intro w' hS'; obtain s1 := hS'; go_simp; try rfl)
            simp only [Act.put, List.getElem_toArray, List.getElem_cons_succ, List.getElem_cons_zero, List.setIfInBounds_toArray, List.set_cons_zero, List.set_cons_succ]
            refine wpHJ_pure (v := ?vg7_48) 7 hFa rfl (by kernel_rfl) (fun _ _ _ h => h.elim) (Or.inl ⟨by rfl, ?yg7_48⟩) (.inr (HOa44.out.at q1 hq1)) ?rg7_48
            case yg7_48 => (intro w' _; go_simp; try rfl)
            simp only [Act.put, List.getElem_toArray, List.getElem_cons_succ, List.getElem_cons_zero, List.setIfInBounds_toArray, List.set_cons_zero, List.set_cons_succ]
            refine wpHJ_only 10 (by kernel_rfl) rfl ?_
            intro K hK
            go_simp
            (with_reducible refine (callsIn_wide.2 (HX2.out w44 HT44.out)).mono ?_)
            rintro e w50 ⟨rfl, hT50, hkp50⟩
            have HT50 := hid hT50
            have HOa50 := hid (HOa44.out.nx hkp50 (by omega))
            have HOb50 := hid (HOb44.out.nx hkp50 (by omega))
            clear hT50 hkp50
            refine hK _ _ (.inr (.inr (HOa50.out.at q1 hq1))) ?_
            clear hK K
            refine wpHJ_pure (v := ?vg11_51) 11 hFa rfl (by kernel_rfl) (fun _ _ _ h => h.elim) (Or.inl ⟨by rfl, ?yg11_51⟩) (.inr (HOa50.out.at q1 hq1)) ?rg11_51
            case yg11_51 => (intro w' _; go_simp; try rfl)
            simp only [Act.put, List.getElem_toArray, List.getElem_cons_succ, List.getElem_cons_zero, List.setIfInBounds_toArray, List.set_cons_zero, List.set_cons_succ]
            refine wpHJ_pure (v := ?vg12_52) 12 hFa rfl (by kernel_rfl) (fun _ _ _ h => h.elim) (Or.inl ⟨by rfl, ?yg12_52⟩) (.inr (HOa50.out.at q1 hq1)) ?rg12_52
            case yg12_52 => (intro w' _; go_simp; try rfl)
            simp only [Act.put, List.getElem_toArray, List.getElem_cons_succ, List.getElem_cons_zero, List.setIfInBounds_toArray, List.set_cons_zero, List.set_cons_succ]
            refine wpHJ_more (fun W' : World => W'.cell? ⟨n42, q2, none⟩ = some (.string ⟨(sepL q2).toArray⟩) ∧ W'.cell? ⟨n11, q1, none⟩ = some (.string ⟨(sepE q1).toArray⟩)) (fun _ h => h.2) _ _ _ _ ?_
            refine wpHJ_take (v := ?vg13_53) 13 hFa rfl (by kernel_rfl) (fun _ _ _ h => h.elim) (Or.inl ⟨by rfl, ?yg13_53⟩) ⟨(HOb50.out.at q2 hq2), (HOa50.out.at q1 hq1)⟩ ?rg13_53
            case yg13_53 => (intro w' hS'; obtain ⟨s1, _⟩ := hS'; go_simp; try rfl)
            simp only [Act.put, List.getElem_toArray, List.getElem_cons_succ, List.getElem_cons_zero, List.setIfInBounds_toArray, List.set_cons_zero, List.set_cons_succ]
            refine wpHJ_pure (v := ?vg14_54) 14 hFa rfl (by kernel_rfl) (fun _ _ _ h => h.elim) (Or.inl ⟨by rfl, ?yg14_54⟩) (.inr ⟨(HOb50.out.at q2 hq2), (HOa50.out.at q1 hq1)⟩) ?rg14_54
            case yg14_54 => (intro w' _; go_simp; try rfl)
            simp only [Act.put, List.getElem_toArray, List.getElem_cons_succ, List.getElem_cons_zero, List.setIfInBounds_toArray, List.set_cons_zero, List.set_cons_succ]
            refine wpHJ_pure (v := ?vg15_55) 15 hFa rfl (by kernel_rfl) (fun _ _ _ h => h.elim) (Or.inl ⟨by rfl, ?yg15_55⟩) (.inr ⟨(HOb50.out.at q2 hq2), (HOa50.out.at q1 hq1)⟩) ?rg15_55
            case yg15_55 => (intro w' _; go_simp; try rfl)
            simp only [Act.put, List.getElem_toArray, List.getElem_cons_succ, List.getElem_cons_zero, List.setIfInBounds_toArray, List.set_cons_zero, List.set_cons_succ]
            refine wpHJ_only 16 (by kernel_rfl) rfl ?_
            intro K hK
            go_simp
            refine hK _ _ (.inl rfl) ?_
            clear hK K
            refine wpHJ_done (by kernel_rfl) ?_ _
            simp only [onlyN, Exit.then]
            clear hFa
            go_wp2
            have HTF := HT50
            go_roundw
            case rel => exact ⟨i + 1, O ++ (x ++ (sepE q1 ++ 10 :: sepL q2)), k + 2, by omega, by go_num, by rw [catE], HTT.out, by omega, HTF.out⟩
            case measure => simp [intOf]; omega
        · intro K hK
          go_simp
          (with_reducible refine (callsIn_wide.2 (HX1.out wd HTD.out)).mono ?_)
          rintro e w58 ⟨rfl, hT58, hkp58⟩
          have HT58 := hid hT58
          clear hT58 hkp58
          refine hK _ _ (.inr (.inr trivial)) ?_
          clear hK K
          refine wpHJ_pure (v := ?vg4_60) 4 hFa rfl (by kernel_rfl) (fun _ _ _ h => h.elim) (Or.inl ⟨by rfl, ?yg4_60⟩) (.inr trivial) ?rg4_60
          case yg4_60 => (intro w' _; go_simp; try rfl)
          simp only [Act.put, List.getElem_toArray, List.getElem_cons_succ, List.getElem_cons_zero, List.setIfInBounds_toArray, List.set_cons_zero, List.set_cons_succ]
          refine wpHJ_three 1 8 10 (by kernel_rfl) rfl rfl rfl ?_ ?_ ?_
          · intro K hK
            go_simp
            have HT64 := hid (HT58.out.alloc (.cells #[.string ⟨#[]⟩, .string ⟨#[32]⟩, .string ⟨#[35, 120]⟩, .string ⟨#[32, 35, 32, 255, 0, 32, 35]⟩] 9))
            have HL64 := hid (show Lit4 w58.heap.size sepE (w58.alloc (.cells #[.string ⟨#[]⟩, .string ⟨#[32]⟩, .string ⟨#[35, 120]⟩, .string ⟨#[32, 35, 32, 255, 0, 32, 35]⟩] 9)) from by unfold Lit4; rw [heap_al, if_pos rfl]; rfl)
            have hge64 : w.heap.size + 2 ≤ w58.heap.size := HT58.out.size
            generalize w58.alloc _ = w64 at *
            generalize w58.heap.size = n64 at *
            refine hK _ _ (.inr (.inr trivial)) ?_
            clear hK K
            refine wpHJ_pure (v := ?vg5_65) 5 hFa rfl (by kernel_rfl) (fun _ _ _ h => h.elim) (Or.inl ⟨by rfl, ?yg5_65⟩) (.inr trivial) ?rg5_65
            case yg5_65 => (intro w' _; go_simp; try rfl)
            simp only [Act.put, List.getElem_toArray, List.getElem_cons_succ, List.getElem_cons_zero, List.setIfInBounds_toArray, List.set_cons_zero, List.set_cons_succ]
            refine wpHJ_more (fun W' : World => W'.cell? ⟨n64, q1, none⟩ = some (.string ⟨(sepE q1).toArray⟩)) (fun _ _ => trivial) _ _ _ _ ?_
            refine wpHJ_take (v := ?vg6_66) 6 hFa rfl (by kernel_rfl) (fun _ _ _ h => h.elim) (Or.inl ⟨by rfl, ?yg6_66⟩) (HL64.out.at q1 hq1) ?rg6_66
            case yg6_66 => (intro w' hS'; obtain s1 := hS'; go_simp; try rfl)
            simp only [Act.put, List.getElem_toArray, List.getElem_cons_succ, List.getElem_cons_zero, List.setIfInBounds_toArray, List.set_cons_zero, List.set_cons_succ]
            refine wpHJ_pure (v := ?vg7_67) 7 hFa rfl (by kernel_rfl) (fun _ _ _ h => h.elim) (Or.inl ⟨by rfl, ?yg7_67⟩) (.inr (HL64.out.at q1 hq1)) ?rg7_67
            case yg7_67 => (intro w' _; go_simp; try rfl)
            simp only [Act.put, List.getElem_toArray, List.getElem_cons_succ, List.getElem_cons_zero, List.setIfInBounds_toArray, List.set_cons_zero, List.set_cons_succ]
            refine wpHJ_both 8 10 (by kernel_rfl) rfl rfl ?_ ?_
            · intro K hK
              go_simp
              have HT70 := hid (HT64.out.alloc (.cells #[.string ⟨#[]⟩, .string ⟨#[10]⟩, .string ⟨#[32, 9, 10]⟩, .string ⟨#[35, 10]⟩] 9))
              have HL70 := hid (show Lit4 w64.heap.size sepL (w64.alloc (.cells #[.string ⟨#[]⟩, .string ⟨#[10]⟩, .string ⟨#[32, 9, 10]⟩, .string ⟨#[35, 10]⟩] 9)) from by unfold Lit4; rw [heap_al, if_pos rfl]; rfl)
              have hge70 : w.heap.size + 2 ≤ w64.heap.size := HT64.out.size
              have HO70 := hid (HL64.out.alloc (.cells #[.string ⟨#[]⟩, .string ⟨#[10]⟩, .string ⟨#[32, 9, 10]⟩, .string ⟨#[35, 10]⟩] 9))
              generalize w64.alloc _ = w70 at *
              generalize w64.heap.size = n70 at *
              refine hK _ _ (.inr (.inr (HO70.out.at q1 hq1))) ?_
              clear hK K
              refine wpHJ_only 10 (by kernel_rfl) rfl ?_
              intro K hK
              go_simp
              (with_reducible refine (callsIn_wide.2 (HX2.out w70 HT70.out)).mono ?_)
              rintro e w72 ⟨rfl, hT72, hkp72⟩
              have HT72 := hid hT72
              have HOa72 := hid (HO70.out.nx hkp72 (by omega))
              have HOb72 := hid (HL70.out.nx hkp72 (by omega))
              clear hT72 hkp72
              refine hK _ _ (.inr (.inr (HOa72.out.at q1 hq1))) ?_
              clear hK K
              refine wpHJ_pure (v := ?vg11_73) 11 hFa rfl (by kernel_rfl) (fun _ _ _ h => h.elim) (Or.inl ⟨by rfl, ?yg11_73⟩) (.inr (HOa72.out.at q1 hq1)) ?rg11_73
              case yg11_73 => (intro w' _; go_simp; try rfl)
              simp only [Act.put, List.getElem_toArray, List.getElem_cons_succ, List.getElem_cons_zero, List.setIfInBounds_toArray, List.set_cons_zero, List.set_cons_succ]
              refine wpHJ_pure (v := ?vg12_74) 12 hFa rfl (by kernel_rfl) (fun _ _ _ h => h.elim) (Or.inl ⟨by rfl, ?yg12_74⟩) (.inr (HOa72.out.at q1 hq1)) ?rg12_74
              case yg12_74 => (intro w' _; go_simp; try rfl)
              simp only [Act.put, List.getElem_toArray, List.getElem_cons_succ, List.getElem_cons_zero, List.setIfInBounds_toArray, List.set_cons_zero, List.set_cons_succ]
              refine wpHJ_more (fun W' : World => W'.cell? ⟨n70, q2, none⟩ = some (.string ⟨(sepL q2).toArray⟩) ∧ W'.cell? ⟨n64, q1, none⟩ = some (.string ⟨(sepE q1).toArray⟩)) (fun _ h => h.2) _ _ _ _ ?_
              refine wpHJ_take (v := ?vg13_75) 13 hFa rfl (by kernel_rfl) (fun _ _ _ h => h.elim) (Or.inl ⟨by rfl, ?yg13_75⟩) ⟨(HOb72.out.at q2 hq2), (HOa72.out.at q1 hq1)⟩ ?rg13_75
              case yg13_75 => (intro w' hS'; obtain ⟨s1, _⟩ := hS'; go_simp; try rfl)
              simp only [Act.put, List.getElem_toArray, List.getElem_cons_succ, List.getElem_cons_zero, List.setIfInBounds_toArray, List.set_cons_zero, List.set_cons_succ]
              refine wpHJ_pure (v := ?vg14_76) 14 hFa rfl (by kernel_rfl) (fun _ _ _ h => h.elim) (Or.inl ⟨by rfl, ?yg14_76⟩) (.inr ⟨(HOb72.out.at q2 hq2), (HOa72.out.at q1 hq1)⟩) ?rg14_76
              case yg14_76 => (intro w' _; go_simp; try rfl)
              simp only [Act.put, List.getElem_toArray, List.getElem_cons_succ, List.getElem_cons_zero, List.setIfInBounds_toArray, List.set_cons_zero, List.set_cons_succ]
              refine wpHJ_pure (v := ?vg15_77) 15 hFa rfl (by kernel_rfl) (fun _ _ _ h => h.elim) (Or.inl ⟨by rfl, ?yg15_77⟩) (.inr ⟨(HOb72.out.at q2 hq2), (HOa72.out.at q1 hq1)⟩) ?rg15_77
              case yg15_77 => (intro w' _; go_simp; try rfl)
              simp only [Act.put, List.getElem_toArray, List.getElem_cons_succ, List.getElem_cons_zero, List.setIfInBounds_toArray, List.set_cons_zero, List.set_cons_succ]
              refine wpHJ_only 16 (by kernel_rfl) rfl ?_
              intro K hK
              go_simp
              refine hK _ _ (.inl rfl) ?_
              clear hK K
              refine wpHJ_done (by kernel_rfl) ?_ _
              simp only [onlyN, Exit.then]
              clear hFa
              go_wp2
              have HTF := HT72
              go_roundw
              case rel => exact ⟨i + 1, O ++ (x ++ (sepE q1 ++ 10 :: sepL q2)), k + 2, by omega, by go_num, by rw [catE], HTT.out, by omega, HTF.out⟩
              case measure => simp [intOf]; omega
            · intro K hK
              go_simp
              (with_reducible refine (callsIn_wide.2 (HX2.out w64 HT64.out)).mono ?_)
              rintro e w80 ⟨rfl, hT80, hkp80⟩
              have HT80 := hid hT80
              have HOa80 := hid (HL64.out.nx hkp80 (by omega))
              clear hT80 hkp80
              refine hK _ _ (.inr (.inr (HOa80.out.at q1 hq1))) ?_
              clear hK K
              refine wpHJ_pure (v := ?vg11_82) 11 hFa rfl (by kernel_rfl) (fun _ _ _ h => h.elim) (Or.inl ⟨by rfl, ?yg11_82⟩) (.inr (HOa80.out.at q1 hq1)) ?rg11_82
              case yg11_82 => (intro w' _; go_simp; try rfl)
              simp only [Act.put, List.getElem_toArray, List.getElem_cons_succ, List.getElem_cons_zero, List.setIfInBounds_toArray, List.set_cons_zero, List.set_cons_succ]
              refine wpHJ_only 8 (by kernel_rfl) rfl ?_
              intro K hK
              go_simp
              have HT84 := hid (HT80.out.alloc (.cells #[.string ⟨#[]⟩, .string ⟨#[10]⟩, .string ⟨#[32, 9, 10]⟩, .string ⟨#[35, 10]⟩] 9))
              have HL84 := hid (show Lit4 w80.heap.size sepL (w80.alloc (.cells #[.string ⟨#[]⟩, .string ⟨#[10]⟩, .string ⟨#[32, 9, 10]⟩, .string ⟨#[35, 10]⟩] 9)) from by unfold Lit4; rw [heap_al, if_pos rfl]; rfl)
              have hge84 : w.heap.size + 2 ≤ w80.heap.size := HT80.out.size
              have HO84 := hid (HOa80.out.alloc (.cells #[.string ⟨#[]⟩, .string ⟨#[10]⟩, .string ⟨#[32, 9, 10]⟩, .string ⟨#[35, 10]⟩] 9))
              generalize w80.alloc _ = w84 at *
              generalize w80.heap.size = n84 at *
              refine hK _ _ (.inr (.inr (HO84.out.at q1 hq1))) ?_
              clear hK K
              refine wpHJ_pure (v := ?vg12_85) 12 hFa rfl (by kernel_rfl) (fun _ _ _ h => h.elim) (Or.inl ⟨by rfl, ?yg12_85⟩) (.inr (HO84.out.at q1 hq1)) ?rg12_85
              case yg12_85 => (intro w' _; go_simp; try rfl)
              simp only [Act.put, List.getElem_toArray, List.getElem_cons_succ, List.getElem_cons_zero, List.setIfInBounds_toArray, List.set_cons_zero, List.set_cons_succ]
              refine wpHJ_more (fun W' : World => W'.cell? ⟨n84, q2, none⟩ = some (.string ⟨(sepL q2).toArray⟩) ∧ W'.cell? ⟨n64, q1, none⟩ = some (.string ⟨(sepE q1).toArray⟩)) (fun _ h => h.2) _ _ _ _ ?_
              refine wpHJ_take (v := ?vg13_86) 13 hFa rfl (by kernel_rfl) (fun _ _ _ h => h.elim) (Or.inl ⟨by rfl, ?yg13_86⟩) ⟨(HL84.out.at q2 hq2), (HO84.out.at q1 hq1)⟩ ?rg13_86
              case yg13_86 => (intro w' hS'; obtain ⟨s1, _⟩ := hS'; go_simp; try rfl)
              simp only [Act.put, List.getElem_toArray, List.getElem_cons_succ, List.getElem_cons_zero, List.setIfInBounds_toArray, List.set_cons_zero, List.set_cons_succ]
              refine wpHJ_pure (v := ?vg14_87) 14 hFa rfl (by kernel_rfl) (fun _ _ _ h => h.elim) (Or.inl ⟨by rfl, ?yg14_87⟩) (.inr ⟨(HL84.out.at q2 hq2), (HO84.out.at q1 hq1)⟩) ?rg14_87
              case yg14_87 => (intro w' _; go_simp; try rfl)
              simp only [Act.put, List.getElem_toArray, List.getElem_cons_succ, List.getElem_cons_zero, List.setIfInBounds_toArray, List.set_cons_zero, List.set_cons_succ]
              refine wpHJ_pure (v := ?vg15_88) 15 hFa rfl (by kernel_rfl) (fun _ _ _ h => h.elim) (Or.inl ⟨by rfl, ?yg15_88⟩) (.inr ⟨(HL84.out.at q2 hq2), (HO84.out.at q1 hq1)⟩) ?rg15_88
              case yg15_88 => (intro w' _; go_simp; try rfl)
              simp only [Act.put, List.getElem_toArray, List.getElem_cons_succ, List.getElem_cons_zero, List.setIfInBounds_toArray, List.set_cons_zero, List.set_cons_succ]
              refine wpHJ_only 16 (by kernel_rfl) rfl ?_
              intro K hK
              go_simp
              refine hK _ _ (.inl rfl) ?_
              clear hK K
              refine wpHJ_done (by kernel_rfl) ?_ _
              simp only [onlyN, Exit.then]
              clear hFa
              go_wp2
              have HTF := HT84
              go_roundw
              case rel => exact ⟨i + 1, O ++ (x ++ (sepE q1 ++ 10 :: sepL q2)), k + 2, by omega, by go_num, by rw [catE], HTT.out, by omega, HTF.out⟩
              case measure => simp [intOf]; omega
          · intro K hK
            go_simp
            have HT91 := hid (HT58.out.alloc (.cells #[.string ⟨#[]⟩, .string ⟨#[10]⟩, .string ⟨#[32, 9, 10]⟩, .string ⟨#[35, 10]⟩] 9))
            have HL91 := hid (show Lit4 w58.heap.size sepL (w58.alloc (.cells #[.string ⟨#[]⟩, .string ⟨#[10]⟩, .string ⟨#[32, 9, 10]⟩, .string ⟨#[35, 10]⟩] 9)) from by unfold Lit4; rw [heap_al, if_pos rfl]; rfl)
            have hge91 : w.heap.size + 2 ≤ w58.heap.size := HT58.out.size
            generalize w58.alloc _ = w91 at *
            generalize w58.heap.size = n91 at *
            refine hK _ _ (.inr (.inr trivial)) ?_
            clear hK K
            refine wpHJ_both 1 10 (by kernel_rfl) rfl rfl ?_ ?_
            · intro K hK
              go_simp
              have HT94 := hid (HT91.out.alloc (.cells #[.string ⟨#[]⟩, .string ⟨#[32]⟩, .string ⟨#[35, 120]⟩, .string ⟨#[32, 35, 32, 255, 0, 32, 35]⟩] 9))
              have HL94 := hid (show Lit4 w91.heap.size sepE (w91.alloc (.cells #[.string ⟨#[]⟩, .string ⟨#[32]⟩, .string ⟨#[35, 120]⟩, .string ⟨#[32, 35, 32, 255, 0, 32, 35]⟩] 9)) from by unfold Lit4; rw [heap_al, if_pos rfl]; rfl)
              have hge94 : w.heap.size + 2 ≤ w91.heap.size := HT91.out.size
              have HO94 := hid (HL91.out.alloc (.cells #[.string ⟨#[]⟩, .string ⟨#[32]⟩, .string ⟨#[35, 120]⟩, .string ⟨#[32, 35, 32, 255, 0, 32, 35]⟩] 9))
              generalize w91.alloc _ = w94 at *
              generalize w91.heap.size = n94 at *
              refine hK _ _ (.inr (.inr trivial)) ?_
              clear hK K
              refine wpHJ_pure (v := ?vg5_95) 5 hFa rfl (by kernel_rfl) (fun _ _ _ h => h.elim) (Or.inl ⟨by rfl, ?yg5_95⟩) (.inr trivial) ?rg5_95
              case yg5_95 => (intro w' _; go_simp; try rfl)
              simp only [Act.put, List.getElem_toArray, List.getElem_cons_succ, List.getElem_cons_zero, List.setIfInBounds_toArray, List.set_cons_zero, List.set_cons_succ]
              refine wpHJ_more (fun W' : World => W'.cell? ⟨n94, q1, none⟩ = some (.string ⟨(sepE q1).toArray⟩)) (fun _ _ => trivial) _ _ _ _ ?_
              refine wpHJ_take (v := ?vg6_96) 6 hFa rfl (by kernel_rfl) (fun _ _ _ h => h.elim) (Or.inl ⟨by rfl, ?yg6_96⟩) (HL94.out.at q1 hq1) ?rg6_96
              case yg6_96 => (intro w' hS'; obtain s1 := hS'; go_simp; try rfl)
              simp only [Act.put, List.getElem_toArray, List.getElem_cons_succ, List.getElem_cons_zero, List.setIfInBounds_toArray, List.set_cons_zero, List.set_cons_succ]
              refine wpHJ_pure (v := ?vg7_97) 7 hFa rfl (by kernel_rfl) (fun _ _ _ h => h.elim) (Or.inl ⟨by rfl, ?yg7_97⟩) (.inr (HL94.out.at q1 hq1)) ?rg7_97
              case yg7_97 => (intro w' _; go_simp; try rfl)
              simp only [Act.put, List.getElem_toArray, List.getElem_cons_succ, List.getElem_cons_zero, List.setIfInBounds_toArray, List.set_cons_zero, List.set_cons_succ]
              refine wpHJ_only 10 (by kernel_rfl) rfl ?_
              intro K hK
              go_simp
              (with_reducible refine (callsIn_wide.2 (HX2.out w94 HT94.out)).mono ?_)
              rintro e w99 ⟨rfl, hT99, hkp99⟩
              have HT99 := hid hT99
              have HOa99 := hid (HL94.out.nx hkp99 (by omega))
              have HOb99 := hid (HO94.out.nx hkp99 (by omega))
              clear hT99 hkp99
              refine hK _ _ (.inr (.inr (HOa99.out.at q1 hq1))) ?_
              clear hK K
              refine wpHJ_pure (v := ?vg11_100) 11 hFa rfl (by kernel_rfl) (fun _ _ _ h => h.elim) (Or.inl ⟨by rfl, ?yg11_100⟩) (.inr (HOa99.out.at q1 hq1)) ?rg11_100
              case yg11_100 => (intro w' _; go_simp; try rfl)
              simp only [Act.put, List.getElem_toArray, List.getElem_cons_succ, List.getElem_cons_zero, List.setIfInBounds_toArray, List.set_cons_zero, List.set_cons_succ]
              refine wpHJ_pure (v := ?vg12_101) 12 hFa rfl (by kernel_rfl) (fun _ _ _ h => h.elim) (Or.inl ⟨by rfl, ?yg12_101⟩) (.inr (HOa99.out.at q1 hq1)) ?rg12_101
              case yg12_101 => (intro w' _; go_simp; try rfl)
              simp only [Act.put, List.getElem_toArray, List.getElem_cons_succ, List.getElem_cons_zero, List.setIfInBounds_toArray, List.set_cons_zero, List.set_cons_succ]
              refine wpHJ_more (fun W' : World => W'.cell? ⟨n91, q2, none⟩ = some (.string ⟨(sepL q2).toArray⟩) ∧ W'.cell? ⟨n94, q1, none⟩ = some (.string ⟨(sepE q1).toArray⟩)) (fun _ h => h.2) _ _ _ _ ?_
              refine wpHJ_take (v := ?vg13_102) 13 hFa rfl (by kernel_rfl) (fun _ _ _ h => h.elim) (Or.inl ⟨by rfl, ?yg13_102⟩) ⟨(HOb99.out.at q2 hq2), (HOa99.out.at q1 hq1)⟩ ?rg13_102
              case yg13_102 => (intro w' hS'; obtain ⟨s1, _⟩ := hS'; go_simp; try rfl)
              simp only [Act.put, List.getElem_toArray, List.getElem_cons_succ, List.getElem_cons_zero, List.setIfInBounds_toArray, List.set_cons_zero, List.set_cons_succ]
              refine wpHJ_pure (v := ?vg14_103) 14 hFa rfl (by kernel_rfl) (fun _ _ _ h => h.elim) (Or.inl ⟨by rfl, ?yg14_103⟩) (.inr ⟨(HOb99.out.at q2 hq2), (HOa99.out.at q1 hq1)⟩) ?rg14_103
              case yg14_103 => (intro w' _; go_simp; try rfl)
              simp only [Act.put, List.getElem_toArray, List.getElem_cons_succ, List.getElem_cons_zero, List.setIfInBounds_toArray, List.set_cons_zero, List.set_cons_succ]
              refine wpHJ_pure (v := ?vg15_104) 15 hFa rfl (by kernel_rfl) (fun _ _ _ h => h.elim) (Or.inl ⟨by rfl, ?yg15_104⟩) (.inr ⟨(HOb99.out.at q2 hq2), (HOa99.out.at q1 hq1)⟩) ?rg15_104
              case yg15_104 => (intro w' _; go_simp; try rfl)
              simp only [Act.put, List.getElem_toArray, List.getElem_cons_succ, List.getElem_cons_zero, List.setIfInBounds_toArray, List.set_cons_zero, List.set_cons_succ]
              refine wpHJ_only 16 (by kernel_rfl) rfl ?_
              intro K hK
              go_simp
              refine hK _ _ (.inl rfl) ?_
              clear hK K
              refine wpHJ_done (by kernel_rfl) ?_ _
              simp only [onlyN, Exit.then]
              clear hFa
              go_wp2
              have HTF := HT99
              go_roundw
              case rel => exact ⟨i + 1, O ++ (x ++ (sepE q1 ++ 10 :: sepL q2)), k + 2, by omega, by go_num, by rw [catE], HTT.out, by omega, HTF.out⟩
              case measure => simp [intOf]; omega
            · intro K hK
              go_simp
              (with_reducible refine (callsIn_wide.2 (HX2.out w91 HT91.out)).mono ?_)
              rintro e w107 ⟨rfl, hT107, hkp107⟩
              have HT107 := hid hT107
              have HOb107 := hid (HL91.out.nx hkp107 (by omega))
              clear hT107 hkp107
              refine hK _ _ (.inr (.inr trivial)) ?_
              clear hK K
              refine wpHJ_pure (v := ?vg11_109) 11 hFa rfl (by kernel_rfl) (fun _ _ _ h => h.elim) (Or.inl ⟨by rfl, ?yg11_109⟩) (.inr trivial) ?rg11_109
              case yg11_109 => (intro w' _; go_simp; try rfl)
              simp only [Act.put, List.getElem_toArray, List.getElem_cons_succ, List.getElem_cons_zero, List.setIfInBounds_toArray, List.set_cons_zero, List.set_cons_succ]
              refine wpHJ_pure (v := ?vg12_111) 12 hFa rfl (by kernel_rfl) (fun _ _ _ h => h.elim) (Or.inl ⟨by rfl, ?yg12_111⟩) (.inr trivial) ?rg12_111
              case yg12_111 => (intro w' _; go_simp; try rfl)
              simp only [Act.put, List.getElem_toArray, List.getElem_cons_succ, List.getElem_cons_zero, List.setIfInBounds_toArray, List.set_cons_zero, List.set_cons_succ]
              refine wpHJ_more (fun W' : World => W'.cell? ⟨n91, q2, none⟩ = some (.string ⟨(sepL q2).toArray⟩)) (fun _ _ => trivial) _ _ _ _ ?_
              refine wpHJ_take (v := ?vg13_113) 13 hFa rfl (by kernel_rfl) (fun _ _ _ h => h.elim) (Or.inl ⟨by rfl, ?yg13_113⟩) (HOb107.out.at q2 hq2) ?rg13_113
              case yg13_113 => (intro w' hS'; obtain s1 := hS'; go_simp; try rfl)
              simp only [Act.put, List.getElem_toArray, List.getElem_cons_succ, List.getElem_cons_zero, List.setIfInBounds_toArray, List.set_cons_zero, List.set_cons_succ]
              refine wpHJ_only 1 (by kernel_rfl) rfl ?_
              intro K hK
              go_simp
              have HT115 := hid (HT107.out.alloc (.cells #[.string ⟨#[]⟩, .string ⟨#[32]⟩, .string ⟨#[35, 120]⟩, .string ⟨#[32, 35, 32, 255, 0, 32, 35]⟩] 9))
              have HL115 := hid (show Lit4 w107.heap.size sepE (w107.alloc (.cells #[.string ⟨#[]⟩, .string ⟨#[32]⟩, .string ⟨#[35, 120]⟩, .string ⟨#[32, 35, 32, 255, 0, 32, 35]⟩] 9)) from by unfold Lit4; rw [heap_al, if_pos rfl]; rfl)
              have hge115 : w.heap.size + 2 ≤ w107.heap.size := HT107.out.size
              have HO115 := hid (HOb107.out.alloc (.cells #[.string ⟨#[]⟩, .string ⟨#[32]⟩, .string ⟨#[35, 120]⟩, .string ⟨#[32, 35, 32, 255, 0, 32, 35]⟩] 9))
              generalize w107.alloc _ = w115 at *
              generalize w107.heap.size = n115 at *
              refine hK _ _ (.inr (.inr (HO115.out.at q2 hq2))) ?_
              clear hK K
              refine wpHJ_pure (v := ?vg5_116) 5 hFa rfl (by kernel_rfl) (fun _ _ _ h => h.elim) (Or.inl ⟨by rfl, ?yg5_116⟩) (.inr (HO115.out.at q2 hq2)) ?rg5_116
              case yg5_116 => (intro w' _; go_simp; try rfl)
              simp only [Act.put, List.getElem_toArray, List.getElem_cons_succ, List.getElem_cons_zero, List.setIfInBounds_toArray, List.set_cons_zero, List.set_cons_succ]
              refine wpHJ_more (fun W' : World => W'.cell? ⟨n115, q1, none⟩ = some (.string ⟨(sepE q1).toArray⟩) ∧ W'.cell? ⟨n91, q2, none⟩ = some (.string ⟨(sepL q2).toArray⟩)) (fun _ h => h.2) _ _ _ _ ?_
              refine wpHJ_take (v := ?vg6_117) 6 hFa rfl (by kernel_rfl) (fun _ _ _ h => h.elim) (Or.inl ⟨by rfl, ?yg6_117⟩) ⟨(HL115.out.at q1 hq1), (HO115.out.at q2 hq2)⟩ ?rg6_117
              case yg6_117 => (intro w' hS'; obtain ⟨s1, _⟩ := hS'; go_simp; try rfl)
              simp only [Act.put, List.getElem_toArray, List.getElem_cons_succ, List.getElem_cons_zero, List.setIfInBounds_toArray, List.set_cons_zero, List.set_cons_succ]
              refine wpHJ_pure (v := ?vg7_118) 7 hFa rfl (by kernel_rfl) (fun _ _ _ h => h.elim) (Or.inl ⟨by rfl, ?yg7_118⟩) (.inr ⟨(HL115.out.at q1 hq1), (HO115.out.at q2 hq2)⟩) ?rg7_118
              case yg7_118 => (intro w' _; go_simp; try rfl)
              simp only [Act.put, List.getElem_toArray, List.getElem_cons_succ, List.getElem_cons_zero, List.setIfInBounds_toArray, List.set_cons_zero, List.set_cons_succ]
              refine wpHJ_pure (v := ?vg14_119) 14 hFa rfl (by kernel_rfl) (fun _ _ _ h => h.elim) (Or.inl ⟨by rfl, ?yg14_119⟩) (.inr ⟨(HL115.out.at q1 hq1), (HO115.out.at q2 hq2)⟩) ?rg14_119
              case yg14_119 => (intro w' _; go_simp; try rfl)
              simp only [Act.put, List.getElem_toArray, List.getElem_cons_succ, List.getElem_cons_zero, List.setIfInBounds_toArray, List.set_cons_zero, List.set_cons_succ]
              refine wpHJ_pure (v := ?vg15_120) 15 hFa rfl (by kernel_rfl) (fun _ _ _ h => h.elim) (Or.inl ⟨by rfl, ?yg15_120⟩) (.inr ⟨(HL115.out.at q1 hq1), (HO115.out.at q2 hq2)⟩) ?rg15_120
              case yg15_120 => (intro w' _; go_simp; try rfl)
              simp only [Act.put, List.getElem_toArray, List.getElem_cons_succ, List.getElem_cons_zero, List.setIfInBounds_toArray, List.set_cons_zero, List.set_cons_succ]
              refine wpHJ_only 16 (by kernel_rfl) rfl ?_
              intro K hK
              go_simp
              refine hK _ _ (.inl rfl) ?_
              clear hK K
              refine wpHJ_done (by kernel_rfl) ?_ _
              simp only [onlyN, Exit.then]
              clear hFa
              go_wp2
              have HTF := HT115
              go_roundw
              case rel => exact ⟨i + 1, O ++ (x ++ (sepE q1 ++ 10 :: sepL q2)), k + 2, by omega, by go_num, by rw [catE], HTT.out, by omega, HTF.out⟩
              case measure => simp [intOf]; omega
          · intro K hK
            go_simp
            (with_reducible refine (callsIn_wide.2 (HX2.out w58 HT58.out)).mono ?_)
            rintro e w123 ⟨rfl, hT123, hkp123⟩
            have HT123 := hid hT123
            clear hT123 hkp123
            refine hK _ _ (.inr (.inr trivial)) ?_
            clear hK K
            refine wpHJ_pure (v := ?vg11_126) 11 hFa rfl (by kernel_rfl) (fun _ _ _ h => h.elim) (Or.inl ⟨by rfl, ?yg11_126⟩) (.inr trivial) ?rg11_126
            case yg11_126 => (intro w' _; go_simp; try rfl)
            simp only [Act.put, List.getElem_toArray, List.getElem_cons_succ, List.getElem_cons_zero, List.setIfInBounds_toArray, List.set_cons_zero, List.set_cons_succ]
            refine wpHJ_both 1 8 (by kernel_rfl) rfl rfl ?_ ?_
            · intro K hK
              go_simp
              have HT129 := hid (HT123.out.alloc (.cells #[.string ⟨#[]⟩, .string ⟨#[32]⟩, .string ⟨#[35, 120]⟩, .string ⟨#[32, 35, 32, 255, 0, 32, 35]⟩] 9))
              have HL129 := hid (show Lit4 w123.heap.size sepE (w123.alloc (.cells #[.string ⟨#[]⟩, .string ⟨#[32]⟩, .string ⟨#[35, 120]⟩, .string ⟨#[32, 35, 32, 255, 0, 32, 35]⟩] 9)) from by unfold Lit4; rw [heap_al, if_pos rfl]; rfl)
              have hge129 : w.heap.size + 2 ≤ w123.heap.size := HT123.out.size
              generalize w123.alloc _ = w129 at *
              generalize w123.heap.size = n129 at *
              refine hK _ _ (.inr (.inr trivial)) ?_
              clear hK K
              refine wpHJ_pure (v := ?vg5_130) 5 hFa rfl (by kernel_rfl) (fun _ _ _ h => h.elim) (Or.inl ⟨by rfl, ?yg5_130⟩) (.inr trivial) ?rg5_130
              case yg5_130 => (intro w' _; go_simp; try rfl)
              simp only [Act.put, List.getElem_toArray, List.getElem_cons_succ, List.getElem_cons_zero, List.setIfInBounds_toArray, List.set_cons_zero, List.set_cons_succ]
              refine wpHJ_more (fun W' : World => W'.cell? ⟨n129, q1, none⟩ = some (.string ⟨(sepE q1).toArray⟩)) (fun _ _ => trivial) _ _ _ _ ?_
              refine wpHJ_take (v := ?vg6_131) 6 hFa rfl (by kernel_rfl) (fun _ _ _ h => h.elim) (Or.inl ⟨by rfl, ?yg6_131⟩) (HL129.out.at q1 hq1) ?rg6_131
              case yg6_131 => (intro w' hS'; obtain s1 := hS'; go_simp; try rfl)
              simp only [Act.put, List.getElem_toArray, List.getElem_cons_succ, List.getElem_cons_zero, List.setIfInBounds_toArray, List.set_cons_zero, List.set_cons_succ]
              refine wpHJ_pure (v := ?vg7_132) 7 hFa rfl (by kernel_rfl) (fun _ _ _ h => h.elim) (Or.inl ⟨by rfl, ?yg7_132⟩) (.inr (HL129.out.at q1 hq1)) ?rg7_132
              case yg7_132 => (intro w' _; go_simp; try rfl)
              simp only [Act.put, List.getElem_toArray, List.getElem_cons_succ, List.getElem_cons_zero, List.setIfInBounds_toArray, List.set_cons_zero, List.set_cons_succ]
              refine wpHJ_only 8 (by kernel_rfl) rfl ?_
              intro K hK
              go_simp
              have HT134 := hid (HT129.out.alloc (.cells #[.string ⟨#[]⟩, .string ⟨#[10]⟩, .string ⟨#[32, 9, 10]⟩, .string ⟨#[35, 10]⟩] 9))
              have HL134 := hid (show Lit4 w129.heap.size sepL (w129.alloc (.cells #[.string ⟨#[]⟩, .string ⟨#[10]⟩, .string ⟨#[32, 9, 10]⟩, .string ⟨#[35, 10]⟩] 9)) from by unfold Lit4; rw [heap_al, if_pos rfl]; rfl)
              have hge134 : w.heap.size + 2 ≤ w129.heap.size := HT129.out.size
              have HO134 := hid (HL129.out.alloc (.cells #[.string ⟨#[]⟩, .string ⟨#[10]⟩, .string ⟨#[32, 9, 10]⟩, .string ⟨#[35, 10]⟩] 9))
              generalize w129.alloc _ = w134 at *
              generalize w129.heap.size = n134 at *
              refine hK _ _ (.inr (.inr (HO134.out.at q1 hq1))) ?_
              clear hK K
              refine wpHJ_pure (v := ?vg12_135) 12 hFa rfl (by kernel_rfl) (fun _ _ _ h => h.elim) (Or.inl ⟨by rfl, ?yg12_135⟩) (.inr (HO134.out.at q1 hq1)) ?rg12_135
              case yg12_135 => (intro w' _; go_simp; try rfl)
              simp only [Act.put, List.getElem_toArray, List.getElem_cons_succ, List.getElem_cons_zero, List.setIfInBounds_toArray, List.set_cons_zero, List.set_cons_succ]
              refine wpHJ_more (fun W' : World => W'.cell? ⟨n134, q2, none⟩ = some (.string ⟨(sepL q2).toArray⟩) ∧ W'.cell? ⟨n129, q1, none⟩ = some (.string ⟨(sepE q1).toArray⟩)) (fun _ h => h.2) _ _ _ _ ?_
              refine wpHJ_take (v := ?vg13_136) 13 hFa rfl (by kernel_rfl) (fun _ _ _ h => h.elim) (Or.inl ⟨by rfl, ?yg13_136⟩) ⟨(HL134.out.at q2 hq2), (HO134.out.at q1 hq1)⟩ ?rg13_136
              case yg13_136 => (intro w' hS'; obtain ⟨s1, _⟩ := hS'; go_simp; try rfl)
              simp only [Act.put, List.getElem_toArray, List.getElem_cons_succ, List.getElem_cons_zero, List.setIfInBounds_toArray, List.set_cons_zero, List.set_cons_succ]
              refine wpHJ_pure (v := ?vg14_137) 14 hFa rfl (by kernel_rfl) (fun _ _ _ h => h.elim) (Or.inl ⟨by rfl, ?yg14_137⟩) (.inr ⟨(HL134.out.at q2 hq2), (HO134.out.at q1 hq1)⟩) ?rg14_137
              case yg14_137 => (intro w' _; go_simp; try rfl)
              simp only [Act.put, List.getElem_toArray, List.getElem_cons_succ, List.getElem_cons_zero, List.setIfInBounds_toArray, List.set_cons_zero, List.set_cons_succ]
              refine wpHJ_pure (v := ?vg15_138) 15 hFa rfl (by kernel_rfl) (fun _ _ _ h => h.elim) (Or.inl ⟨by rfl, ?yg15_138⟩) (.inr ⟨(HL134.out.at q2 hq2), (HO134.out.at q1 hq1)⟩) ?rg15_138
              case yg15_138 => (intro w' _; go_simp; try rfl)
              simp only [Act.put, List.getElem_toArray, List.getElem_cons_succ, List.getElem_cons_zero, List.setIfInBounds_toArray, List.set_cons_zero, List.set_cons_succ]
              refine wpHJ_only 16 (by kernel_rfl) rfl ?_
              intro K hK
              go_simp
              refine hK _ _ (.inl rfl) ?_
              clear hK K
              refine wpHJ_done (by kernel_rfl) ?_ _
              simp only [onlyN, Exit.then]
              clear hFa
              go_wp2
              have HTF := HT134
              go_roundw
              case rel => exact ⟨i + 1, O ++ (x ++ (sepE q1 ++ 10 :: sepL q2)), k + 2, by omega, by go_num, by rw [catE], HTT.out, by omega, HTF.out⟩
              case measure => simp [intOf]; omega
            · intro K hK
              go_simp
              have HT141 := hid (HT123.out.alloc (.cells #[.string ⟨#[]⟩, .string ⟨#[10]⟩, .string ⟨#[32, 9, 10]⟩, .string ⟨#[35, 10]⟩] 9))
              have HL141 := hid (show Lit4 w123.heap.size sepL (w123.alloc (.cells #[.string ⟨#[]⟩, .string ⟨#[10]⟩, .string ⟨#[32, 9, 10]⟩, .string ⟨#[35, 10]⟩] 9)) from by unfold Lit4; rw [heap_al, if_pos rfl]; rfl)
              have hge141 : w.heap.size + 2 ≤ w123.heap.size := HT123.out.size
              generalize w123.alloc _ = w141 at *
              generalize w123.heap.size = n141 at *
              refine hK _ _ (.inr (.inr trivial)) ?_
              clear hK K
              refine wpHJ_pure (v := ?vg12_143) 12 hFa rfl (by kernel_rfl) (fun _ _ _ h => h.elim) (Or.inl ⟨by rfl, ?yg12_143⟩) (.inr trivial) ?rg12_143
              case yg12_143 => (intro w' _; go_simp; try rfl)
              simp only [Act.put, List.getElem_toArray, List.getElem_cons_succ, List.getElem_cons_zero, List.setIfInBounds_toArray, List.set_cons_zero, List.set_cons_succ]
              refine wpHJ_more (fun W' : World => W'.cell? ⟨n141, q2, none⟩ = some (.string ⟨(sepL q2).toArray⟩)) (fun _ _ => trivial) _ _ _ _ ?_
              refine wpHJ_take (v := ?vg13_145) 13 hFa rfl (by kernel_rfl) (fun _ _ _ h => h.elim) (Or.inl ⟨by rfl, ?yg13_145⟩) (HL141.out.at q2 hq2) ?rg13_145
              case yg13_145 => (intro w' hS'; obtain s1 := hS'; go_simp; try rfl)
              simp only [Act.put, List.getElem_toArray, List.getElem_cons_succ, List.getElem_cons_zero, List.setIfInBounds_toArray, List.set_cons_zero, List.set_cons_succ]
              refine wpHJ_only 1 (by kernel_rfl) rfl ?_
              intro K hK
              go_simp
              have HT147 := hid (HT141.out.alloc (.cells #[.string ⟨#[]⟩, .string ⟨#[32]⟩, .string ⟨#[35, 120]⟩, .string ⟨#[32, 35, 32, 255, 0, 32, 35]⟩] 9))
              have HL147 := hid (show Lit4 w141.heap.size sepE (w141.alloc (.cells #[.string ⟨#[]⟩, .string ⟨#[32]⟩, .string ⟨#[35, 120]⟩, .string ⟨#[32, 35, 32, 255, 0, 32, 35]⟩] 9)) from by unfold Lit4; rw [heap_al, if_pos rfl]; rfl)
              have hge147 : w.heap.size + 2 ≤ w141.heap.size := HT141.out.size
              have HO147 := hid (HL141.out.alloc (.cells #[.string ⟨#[]⟩, .string ⟨#[32]⟩, .string ⟨#[35, 120]⟩, .string ⟨#[32, 35, 32, 255, 0, 32, 35]⟩] 9))
              generalize w141.alloc _ = w147 at *
              generalize w141.heap.size = n147 at *
              refine hK _ _ (.inr (.inr (HO147.out.at q2 hq2))) ?_
              clear hK K
              refine wpHJ_pure (v := ?vg5_148) 5 hFa rfl (by kernel_rfl) (fun _ _ _ h => h.elim) (Or.inl ⟨by rfl, ?yg5_148⟩) (.inr (HO147.out.at q2 hq2)) ?rg5_148
              case yg5_148 => (intro w' _; go_simp; try rfl)
              simp only [Act.put, List.getElem_toArray, List.getElem_cons_succ, List.getElem_cons_zero, List.setIfInBounds_toArray, List.set_cons_zero, List.set_cons_succ]
              refine wpHJ_more (fun W' : World => W'.cell? ⟨n147, q1, none⟩ = some (.string ⟨(sepE q1).toArray⟩) ∧ W'.cell? ⟨n141, q2, none⟩ = some (.string ⟨(sepL q2).toArray⟩)) (fun _ h => h.2) _ _ _ _ ?_
              refine wpHJ_take (v := ?vg6_149) 6 hFa rfl (by kernel_rfl) (fun _ _ _ h => h.elim) (Or.inl ⟨by rfl, ?yg6_149⟩) ⟨(HL147.out.at q1 hq1), (HO147.out.at q2 hq2)⟩ ?rg6_149
              case yg6_149 => (intro w' hS'; obtain ⟨s1, _⟩ := hS'; go_simp; try rfl)
              simp only [Act.put, List.getElem_toArray, List.getElem_cons_succ, List.getElem_cons_zero, List.setIfInBounds_toArray, List.set_cons_zero, List.set_cons_succ]
              refine wpHJ_pure (v := ?vg7_150) 7 hFa rfl (by kernel_rfl) (fun _ _ _ h => h.elim) (Or.inl ⟨by rfl, ?yg7_150⟩) (.inr ⟨(HL147.out.at q1 hq1), (HO147.out.at q2 hq2)⟩) ?rg7_150
              case yg7_150 => (intro w' _; go_simp; try rfl)
              simp only [Act.put, List.getElem_toArray, List.getElem_cons_succ, List.getElem_cons_zero, List.setIfInBounds_toArray, List.set_cons_zero, List.set_cons_succ]
              refine wpHJ_pure (v := ?vg14_151) 14 hFa rfl (by kernel_rfl) (fun _ _ _ h => h.elim) (Or.inl ⟨by rfl, ?yg14_151⟩) (.inr ⟨(HL147.out.at q1 hq1), (HO147.out.at q2 hq2)⟩) ?rg14_151
              case yg14_151 => (intro w' _; go_simp; try rfl)
              simp only [Act.put, List.getElem_toArray, List.getElem_cons_succ, List.getElem_cons_zero, List.setIfInBounds_toArray, List.set_cons_zero, List.set_cons_succ]
              refine wpHJ_pure (v := ?vg15_152) 15 hFa rfl (by kernel_rfl) (fun _ _ _ h => h.elim) (Or.inl ⟨by rfl, ?yg15_152⟩) (.inr ⟨(HL147.out.at q1 hq1), (HO147.out.at q2 hq2)⟩) ?rg15_152
              case yg15_152 => (intro w' _; go_simp; try rfl)
              simp only [Act.put, List.getElem_toArray, List.getElem_cons_succ, List.getElem_cons_zero, List.setIfInBounds_toArray, List.set_cons_zero, List.set_cons_succ]
              refine wpHJ_only 16 (by kernel_rfl) rfl ?_
              intro K hK
              go_simp
              refine hK _ _ (.inl rfl) ?_
              clear hK K
              refine wpHJ_done (by kernel_rfl) ?_ _
              simp only [onlyN, Exit.then]
              clear hFa
              go_wp2
              have HTF := HT147
              go_roundw
              case rel => exact ⟨i + 1, O ++ (x ++ (sepE q1 ++ 10 :: sepL q2)), k + 2, by omega, by go_num, by rw [catE], HTT.out, by omega, HTF.out⟩
              case measure => simp [intOf]; omega
        · intro K hK
          go_simp
          have HT155 := hid (HTD.out.alloc (.cells #[.string ⟨#[]⟩, .string ⟨#[10]⟩, .string ⟨#[32, 9, 10]⟩, .string ⟨#[35, 10]⟩] 9))
          have HL155 := hid (show Lit4 wd.heap.size sepL (wd.alloc (.cells #[.string ⟨#[]⟩, .string ⟨#[10]⟩, .string ⟨#[32, 9, 10]⟩, .string ⟨#[35, 10]⟩] 9)) from by unfold Lit4; rw [heap_al, if_pos rfl]; rfl)
          have hge155 : w.heap.size + 2 ≤ wd.heap.size := HTD.out.size
          generalize wd.alloc _ = w155 at *
          generalize wd.heap.size = n155 at *
          refine hK _ _ (.inr (.inr trivial)) ?_
          clear hK K
          refine wpHJ_both 1 3 (by kernel_rfl) rfl rfl ?_ ?_
          · intro K hK
            go_simp
            have HT158 := hid (HT155.out.alloc (.cells #[.string ⟨#[]⟩, .string ⟨#[32]⟩, .string ⟨#[35, 120]⟩, .string ⟨#[32, 35, 32, 255, 0, 32, 35]⟩] 9))
            have HL158 := hid (show Lit4 w155.heap.size sepE (w155.alloc (.cells #[.string ⟨#[]⟩, .string ⟨#[32]⟩, .string ⟨#[35, 120]⟩, .string ⟨#[32, 35, 32, 255, 0, 32, 35]⟩] 9)) from by unfold Lit4; rw [heap_al, if_pos rfl]; rfl)
            have hge158 : w.heap.size + 2 ≤ w155.heap.size := HT155.out.size
            have HO158 := hid (HL155.out.alloc (.cells #[.string ⟨#[]⟩, .string ⟨#[32]⟩, .string ⟨#[35, 120]⟩, .string ⟨#[32, 35, 32, 255, 0, 32, 35]⟩] 9))
            generalize w155.alloc _ = w158 at *
            generalize w155.heap.size = n158 at *
            refine hK _ _ (.inr (.inr trivial)) ?_
            clear hK K
            refine wpHJ_only 3 (by kernel_rfl) rfl ?_
            intro K hK
            go_simp
            (with_reducible refine (callsIn_wide.2 (HX1.out w158 HT158.out)).mono ?_)
            rintro e w160 ⟨rfl, hT160, hkp160⟩
            have HT160 := hid hT160
            have HOa160 := hid (HL158.out.nx hkp160 (by omega))
            have HOb160 := hid (HO158.out.nx hkp160 (by omega))
            clear hT160 hkp160
            refine hK _ _ (.inr (.inr trivial)) ?_
            clear hK K
            refine wpHJ_pure (v := ?vg4_161) 4 hFa rfl (by kernel_rfl) (fun _ _ _ h => h.elim) (Or.inl ⟨by rfl, ?yg4_161⟩) (.inr trivial) ?rg4_161
            case yg4_161 => (intro w' _; go_simp; try rfl)
            simp only [Act.put, List.getElem_toArray, List.getElem_cons_succ, List.getElem_cons_zero, List.setIfInBounds_toArray, List.set_cons_zero, List.set_cons_succ]
            refine wpHJ_pure (v := ?vg5_162) 5 hFa rfl (by kernel_rfl) (fun _ _ _ h => h.elim) (Or.inl ⟨by rfl, ?yg5_162⟩) (.inr trivial) ?rg5_162
            case yg5_162 => (intro w' _; go_simp; try rfl)
            simp only [Act.put, List.getElem_toArray, List.getElem_cons_succ, List.getElem_cons_zero, List.setIfInBounds_toArray, List.set_cons_zero, List.set_cons_succ]
            refine wpHJ_more (fun W' : World => W'.cell? ⟨n158, q1, none⟩ = some (.string ⟨(sepE q1).toArray⟩)) (fun _ _ => trivial) _ _ _ _ ?_
            refine wpHJ_take (v := ?vg6_163) 6 hFa rfl (by kernel_rfl) (fun _ _ _ h => h.elim) (Or.inl ⟨by rfl, ?yg6_163⟩) (HOa160.out.at q1 hq1) ?rg6_163
            case yg6_163 => (intro w' hS'; obtain s1 := hS'; go_simp; try rfl)
            simp only [Act.put, List.getElem_toArray, List.getElem_cons_succ, List.getElem_cons_zero, List.setIfInBounds_toArray, List.set_cons_zero, List.set_cons_succ]
            refine wpHJ_pure (v := ?vg7_164) 7 hFa rfl (by kernel_rfl) (fun _ _ _ h => h.elim) (Or.inl ⟨by rfl, ?yg7_164⟩) (.inr (HOa160.out.at q1 hq1)) ?rg7_164
            case yg7_164 => (intro w' _; go_simp; try rfl)
            simp only [Act.put, List.getElem_toArray, List.getElem_cons_succ, List.getElem_cons_zero, List.setIfInBounds_toArray, List.set_cons_zero, List.set_cons_succ]
            refine wpHJ_only 10 (by kernel_rfl) rfl ?_
            intro K hK
            go_simp
            (with_reducible refine (callsIn_wide.2 (HX2.out w160 HT160.out)).mono ?_)
            rintro e w166 ⟨rfl, hT166, hkp166⟩
            have HT166 := hid hT166
            have HOa166 := hid (HOa160.out.nx hkp166 (by omega))
            have HOb166 := hid (HOb160.out.nx hkp166 (by omega))
            clear hT166 hkp166
            refine hK _ _ (.inr (.inr (HOa166.out.at q1 hq1))) ?_
            clear hK K
            refine wpHJ_pure (v := ?vg11_167) 11 hFa rfl (by kernel_rfl) (fun _ _ _ h => h.elim) (Or.inl ⟨by rfl, ?yg11_167⟩) (.inr (HOa166.out.at q1 hq1)) ?rg11_167
            case yg11_167 => (intro w' _; go_simp; try rfl)
            simp only [Act.put, List.getElem_toArray, List.getElem_cons_succ, List.getElem_cons_zero, List.setIfInBounds_toArray, List.set_cons_zero, List.set_cons_succ]
            refine wpHJ_pure (v := ?vg12_168) 12 hFa rfl (by kernel_rfl) (fun _ _ _ h => h.elim) (Or.inl ⟨by rfl, ?yg12_168⟩) (.inr (HOa166.out.at q1 hq1)) ?rg12_168
            case yg12_168 => (intro w' _; go_simp; try rfl)
            simp only [Act.put, List.getElem_toArray, List.getElem_cons_succ, List.getElem_cons_zero, List.setIfInBounds_toArray, List.set_cons_zero, List.set_cons_succ]
            refine wpHJ_more (fun W' : World => W'.cell? ⟨n155, q2, none⟩ = some (.string ⟨(sepL q2).toArray⟩) ∧ W'.cell? ⟨n158, q1, none⟩ = some (.string ⟨(sepE q1).toArray⟩)) (fun _ h => h.2) _ _ _ _ ?_
            refine wpHJ_take (v := ?vg13_169) 13 hFa rfl (by kernel_rfl) (fun _ _ _ h => h.elim) (Or.inl ⟨by rfl, ?yg13_169⟩) ⟨(HOb166.out.at q2 hq2), (HOa166.out.at q1 hq1)⟩ ?rg13_169
            case yg13_169 => (intro w' hS'; obtain ⟨s1, _⟩ := hS'; go_simp; try rfl)
            simp only [Act.put, List.getElem_toArray, List.getElem_cons_succ, List.getElem_cons_zero, List.setIfInBounds_toArray, List.set_cons_zero, List.set_cons_succ]
            refine wpHJ_pure (v := ?vg14_170) 14 hFa rfl (by kernel_rfl) (fun _ _ _ h => h.elim) (Or.inl ⟨by rfl, ?yg14_170⟩) (.inr ⟨(HOb166.out.at q2 hq2), (HOa166.out.at q1 hq1)⟩) ?rg14_170
            case yg14_170 => (intro w' _; go_simp; try rfl)
            simp only [Act.put, List.getElem_toArray, List.getElem_cons_succ, List.getElem_cons_zero, List.setIfInBounds_toArray, List.set_cons_zero, List.set_cons_succ]
            refine wpHJ_pure (v := ?vg15_171) 15 hFa rfl (by kernel_rfl) (fun _ _ _ h => h.elim) (Or.inl ⟨by rfl, ?yg15_171⟩) (.inr ⟨(HOb166.out.at q2 hq2), (HOa166.out.at q1 hq1)⟩) ?rg15_171
            case yg15_171 => (intro w' _; go_simp; try rfl)
            simp only [Act.put, List.getElem_toArray, List.getElem_cons_succ, List.getElem_cons_zero, List.setIfInBounds_toArray, List.set_cons_zero, List.set_cons_succ]
            refine wpHJ_only 16 (by kernel_rfl) rfl ?_
            intro K hK
            go_simp
            refine hK _ _ (.inl rfl) ?_
            clear hK K
            refine wpHJ_done (by kernel_rfl) ?_ _
            simp only [onlyN, Exit.then]
            clear hFa
            go_wp2
            have HTF := HT166
            go_roundw
            case rel => exact ⟨i + 1, O ++ (x ++ (sepE q1 ++ 10 :: sepL q2)), k + 2, by omega, by go_num, by rw [catE], HTT.out, by omega, HTF.out⟩
            case measure => simp [intOf]; omega
          · intro K hK
            go_simp
            (with_reducible refine (callsIn_wide.2 (HX1.out w155 HT155.out)).mono ?_)
            rintro e w174 ⟨rfl, hT174, hkp174⟩
            have HT174 := hid hT174
            have HOb174 := hid (HL155.out.nx hkp174 (by omega))
            clear hT174 hkp174
            refine hK _ _ (.inr (.inr trivial)) ?_
            clear hK K
            refine wpHJ_pure (v := ?vg4_176) 4 hFa rfl (by kernel_rfl) (fun _ _ _ h => h.elim) (Or.inl ⟨by rfl, ?yg4_176⟩) (.inr trivial) ?rg4_176
            case yg4_176 => (intro w' _; go_simp; try rfl)
            simp only [Act.put, List.getElem_toArray, List.getElem_cons_succ, List.getElem_cons_zero, List.setIfInBounds_toArray, List.set_cons_zero, List.set_cons_succ]
            refine wpHJ_both 1 10 (by kernel_rfl) rfl rfl ?_ ?_
            · intro K hK
              go_simp
              have HT179 := hid (HT174.out.alloc (.cells #[.string ⟨#[]⟩, .string ⟨#[32]⟩, .string ⟨#[35, 120]⟩, .string ⟨#[32, 35, 32, 255, 0, 32, 35]⟩] 9))
              have HL179 := hid (show Lit4 w174.heap.size sepE (w174.alloc (.cells #[.string ⟨#[]⟩, .string ⟨#[32]⟩, .string ⟨#[35, 120]⟩, .string ⟨#[32, 35, 32, 255, 0, 32, 35]⟩] 9)) from by unfold Lit4; rw [heap_al, if_pos rfl]; rfl)
              have hge179 : w.heap.size + 2 ≤ w174.heap.size := HT174.out.size
              have HO179 := hid (HOb174.out.alloc (.cells #[.string ⟨#[]⟩, .string ⟨#[32]⟩, .string ⟨#[35, 120]⟩, .string ⟨#[32, 35, 32, 255, 0, 32, 35]⟩] 9))
              generalize w174.alloc _ = w179 at *
              generalize w174.heap.size = n179 at *
              refine hK _ _ (.inr (.inr trivial)) ?_
              clear hK K
              refine wpHJ_pure (v := ?vg5_180) 5 hFa rfl (by kernel_rfl) (fun _ _ _ h => h.elim) (Or.inl ⟨by rfl, ?yg5_180⟩) (.inr trivial) ?rg5_180
              case yg5_180 => (intro w' _; go_simp; try rfl)
              simp only [Act.put, List.getElem_toArray, List.getElem_cons_succ, List.getElem_cons_zero, List.setIfInBounds_toArray, List.set_cons_zero, List.set_cons_succ]
              refine wpHJ_more (fun W' : World => W'.cell? ⟨n179, q1, none⟩ = some (.string ⟨(sepE q1).toArray⟩)) (fun _ _ => trivial) _ _ _ _ ?_
              refine wpHJ_take (v := ?vg6_181) 6 hFa rfl (by kernel_rfl) (fun _ _ _ h => h.elim) (Or.inl ⟨by rfl, ?yg6_181⟩) (HL179.out.at q1 hq1) ?rg6_181
              case yg6_181 => (intro w' hS'; obtain s1 := hS'; go_simp; try rfl)
              simp only [Act.put, List.getElem_toArray, List.getElem_cons_succ, List.getElem_cons_zero, List.setIfInBounds_toArray, List.set_cons_zero, List.set_cons_succ]
              refine wpHJ_pure (v := ?vg7_182) 7 hFa rfl (by kernel_rfl) (fun _ _ _ h => h.elim) (Or.inl ⟨by rfl, ?yg7_182⟩) (.inr (HL179.out.at q1 hq1)) ?rg7_182
              case yg7_182 => (intro w' _; go_simp; try rfl)
              simp only [Act.put, List.getElem_toArray, List.getElem_cons_succ, List.getElem_cons_zero, List.setIfInBounds_toArray, List.set_cons_zero, List.set_cons_succ]
              refine wpHJ_only 10 (by kernel_rfl) rfl ?_
              intro K hK
              go_simp
              (with_reducible refine (callsIn_wide.2 (HX2.out w179 HT179.out)).mono ?_)
              rintro e w184 ⟨rfl, hT184, hkp184⟩
              have HT184 := hid hT184
              have HOa184 := hid (HL179.out.nx hkp184 (by omega))
              have HOb184 := hid (HO179.out.nx hkp184 (by omega))
              clear hT184 hkp184
              refine hK _ _ (.inr (.inr (HOa184.out.at q1 hq1))) ?_
              clear hK K
              refine wpHJ_pure (v := ?vg11_185) 11 hFa rfl (by kernel_rfl) (fun _ _ _ h => h.elim) (Or.inl ⟨by rfl, ?yg11_185⟩) (.inr (HOa184.out.at q1 hq1)) ?rg11_185
              case yg11_185 => (intro w' _; go_simp; try rfl)
              simp only [Act.put, List.getElem_toArray, List.getElem_cons_succ, List.getElem_cons_zero, List.setIfInBounds_toArray, List.set_cons_zero, List.set_cons_succ]
              refine wpHJ_pure (v := ?vg12_186) 12 hFa rfl (by kernel_rfl) (fun _ _ _ h => h.elim) (Or.inl ⟨by rfl, ?yg12_186⟩) (.inr (HOa184.out.at q1 hq1)) ?rg12_186
              case yg12_186 => (intro w' _; go_simp; try rfl)
              simp only [Act.put, List.getElem_toArray, List.getElem_cons_succ, List.getElem_cons_zero, List.setIfInBounds_toArray, List.set_cons_zero, List.set_cons_succ]
              refine wpHJ_more (fun W' : World => W'.cell? ⟨n155, q2, none⟩ = some (.string ⟨(sepL q2).toArray⟩) ∧ W'.cell? ⟨n179, q1, none⟩ = some (.string ⟨(sepE q1).toArray⟩)) (fun _ h => h.2) _ _ _ _ ?_
              refine wpHJ_take (v := ?vg13_187) 13 hFa rfl (by kernel_rfl) (fun _ _ _ h => h.elim) (Or.inl ⟨by rfl, ?yg13_187⟩) ⟨(HOb184.out.at q2 hq2), (HOa184.out.at q1 hq1)⟩ ?rg13_187
              case yg13_187 => (intro w' hS'; obtain ⟨s1, _⟩ := hS'; go_simp; try rfl)
              simp only [Act.put, List.getElem_toArray, List.getElem_cons_succ, List.getElem_cons_zero, List.setIfInBounds_toArray, List.set_cons_zero, List.set_cons_succ]
              refine wpHJ_pure (v := ?vg14_188) 14 hFa rfl (by kernel_rfl) (fun _ _ _ h => h.elim) (Or.inl ⟨by rfl, ?yg14_188⟩) (.inr ⟨(HOb184.out.at q2 hq2), (HOa184.out.at q1 hq1)⟩) ?rg14_188
              case yg14_188 => (intro w' _; go_simp; try rfl)
              simp only [Act.put, List.getElem_toArray, List.getElem_cons_succ, List.getElem_cons_zero, List.setIfInBounds_toArray, List.set_cons_zero, List.set_cons_succ]
              refine wpHJ_pure (v := ?vg15_189) 15 hFa rfl (by kernel_rfl) (fun _ _ _ h => h.elim) (Or.inl ⟨by rfl, ?yg15_189⟩) (.inr ⟨(HOb184.out.at q2 hq2), (HOa184.out.at q1 hq1)⟩) ?rg15_189
              case yg15_189 => (intro w' _; go_simp; try rfl)
              simp only [Act.put, List.getElem_toArray, List.getElem_cons_succ, List.getElem_cons_zero, List.setIfInBounds_toArray, List.set_cons_zero, List.set_cons_succ]
              refine wpHJ_only 16 (by kernel_rfl) rfl ?_
              intro K hK
              go_simp
              refine hK _ _ (.inl rfl) ?_
              clear hK K
              refine wpHJ_done (by kernel_rfl) ?_ _
              simp only [onlyN, Exit.then]
              clear hFa
              go_wp2
              have HTF := HT184
              go_roundw
              case rel => exact ⟨i + 1, O ++ (x ++ (sepE q1 ++ 10 :: sepL q2)), k + 2, by omega, by go_num, by rw [catE], HTT.out, by omega, HTF.out⟩
              case measure => simp [intOf]; omega
            · intro K hK
              go_simp
              (with_reducible refine (callsIn_wide.2 (HX2.out w174 HT174.out)).mono ?_)
              rintro e w192 ⟨rfl, hT192, hkp192⟩
              have HT192 := hid hT192
              have HOb192 := hid (HOb174.out.nx hkp192 (by omega))
              clear hT192 hkp192
              refine hK _ _ (.inr (.inr trivial)) ?_
              clear hK K
              refine wpHJ_pure (v := ?vg11_194) 11 hFa rfl (by kernel_rfl) (fun _ _ _ h => h.elim) (Or.inl ⟨by rfl, ?yg11_194⟩) (.inr trivial) ?rg11_194
              case yg11_194 => (intro w' _; go_simp; try rfl)
              simp only [Act.put, List.getElem_toArray, List.getElem_cons_succ, List.getElem_cons_zero, List.setIfInBounds_toArray, List.set_cons_zero, List.set_cons_succ]
              refine wpHJ_pure (v := ?vg12_196) 12 hFa rfl (by kernel_rfl) (fun _ _ _ h => h.elim) (Or.inl ⟨by rfl, ?yg12_196⟩) (.inr trivial) ?rg12_196
              case yg12_196 => (intro w' _; go_simp; try rfl)
              simp only [Act.put, List.getElem_toArray, List.getElem_cons_succ, List.getElem_cons_zero, List.setIfInBounds_toArray, List.set_cons_zero, List.set_cons_succ]
              refine wpHJ_more (fun W' : World => W'.cell? ⟨n155, q2, none⟩ = some (.string ⟨(sepL q2).toArray⟩)) (fun _ _ => trivial) _ _ _ _ ?_
              refine wpHJ_take (v := ?vg13_198) 13 hFa rfl (by kernel_rfl) (fun _ _ _ h => h.elim) (Or.inl ⟨by rfl, ?yg13_198⟩) (HOb192.out.at q2 hq2) ?rg13_198
              case yg13_198 => (intro w' hS'; obtain s1 := hS'; go_simp; try rfl)
              simp only [Act.put, List.getElem_toArray, List.getElem_cons_succ, List.getElem_cons_zero, List.setIfInBounds_toArray, List.set_cons_zero, List.set_cons_succ]
              refine wpHJ_only 1 (by kernel_rfl) rfl ?_
              intro K hK
              go_simp
              have HT200 := hid (HT192.out.alloc (.cells #[.string ⟨#[]⟩, .string ⟨#[32]⟩, .string ⟨#[35, 120]⟩, .string ⟨#[32, 35, 32, 255, 0, 32, 35]⟩] 9))
              have HL200 := hid (show Lit4 w192.heap.size sepE (w192.alloc (.cells #[.string ⟨#[]⟩, .string ⟨#[32]⟩, .string ⟨#[35, 120]⟩, .string ⟨#[32, 35, 32, 255, 0, 32, 35]⟩] 9)) from by unfold Lit4; rw [heap_al, if_pos rfl]; rfl)
              have hge200 : w.heap.size + 2 ≤ w192.heap.size := HT192.out.size
              have HO200 := hid (HOb192.out.alloc (.cells #[.string ⟨#[]⟩, .string ⟨#[32]⟩, .string ⟨#[35, 120]⟩, .string ⟨#[32, 35, 32, 255, 0, 32, 35]⟩] 9))
              generalize w192.alloc _ = w200 at *
              generalize w192.heap.size = n200 at *
              refine hK _ _ (.inr (.inr (HO200.out.at q2 hq2))) ?_
              clear hK K
              refine wpHJ_pure (v := ?vg5_201) 5 hFa rfl (by kernel_rfl) (fun _ _ _ h => h.elim) (Or.inl ⟨by rfl, ?yg5_201⟩) (.inr (HO200.out.at q2 hq2)) ?rg5_201
              case yg5_201 => (intro w' _; go_simp; try rfl)
              simp only [Act.put, List.getElem_toArray, List.getElem_cons_succ, List.getElem_cons_zero, List.setIfInBounds_toArray, List.set_cons_zero, List.set_cons_succ]
              refine wpHJ_more (fun W' : World => W'.cell? ⟨n200, q1, none⟩ = some (.string ⟨(sepE q1).toArray⟩) ∧ W'.cell? ⟨n155, q2, none⟩ = some (.string ⟨(sepL q2).toArray⟩)) (fun _ h => h.2) _ _ _ _ ?_
              refine wpHJ_take (v := ?vg6_202) 6 hFa rfl (by kernel_rfl) (fun _ _ _ h => h.elim) (Or.inl ⟨by rfl, ?yg6_202⟩) ⟨(HL200.out.at q1 hq1), (HO200.out.at q2 hq2)⟩ ?rg6_202
              case yg6_202 => (intro w' hS'; obtain ⟨s1, _⟩ := hS'; go_simp; try rfl)
              simp only [Act.put, List.getElem_toArray, List.getElem_cons_succ, List.getElem_cons_zero, List.setIfInBounds_toArray, List.set_cons_zero, List.set_cons_succ]
              refine wpHJ_pure (v := ?vg7_203) 7 hFa rfl (by kernel_rfl) (fun _ _ _ h => h.elim) (Or.inl ⟨by rfl, ?yg7_203⟩) (.inr ⟨(HL200.out.at q1 hq1), (HO200.out.at q2 hq2)⟩) ?rg7_203
              case yg7_203 => (intro w' _; go_simp; try rfl)
              simp only [Act.put, List.getElem_toArray, List.getElem_cons_succ, List.getElem_cons_zero, List.setIfInBounds_toArray, List.set_cons_zero, List.set_cons_succ]
              refine wpHJ_pure (v := ?vg14_204) 14 hFa rfl (by kernel_rfl) (fun _ _ _ h => h.elim) (Or.inl ⟨by rfl, ?yg14_204⟩) (.inr ⟨(HL200.out.at q1 hq1), (HO200.out.at q2 hq2)⟩) ?rg14_204
              case yg14_204 => (intro w' _; go_simp; try rfl)
              simp only [Act.put, List.getElem_toArray, List.getElem_cons_succ, List.getElem_cons_zero, List.setIfInBounds_toArray, List.set_cons_zero, List.set_cons_succ]
              refine wpHJ_pure (v := ?vg15_205) 15 hFa rfl (by kernel_rfl) (fun _ _ _ h => h.elim) (Or.inl ⟨by rfl, ?yg15_205⟩) (.inr ⟨(HL200.out.at q1 hq1), (HO200.out.at q2 hq2)⟩) ?rg15_205
              case yg15_205 => (intro w' _; go_simp; try rfl)
              simp only [Act.put, List.getElem_toArray, List.getElem_cons_succ, List.getElem_cons_zero, List.setIfInBounds_toArray, List.set_cons_zero, List.set_cons_succ]
              refine wpHJ_only 16 (by kernel_rfl) rfl ?_
              intro K hK
              go_simp
              refine hK _ _ (.inl rfl) ?_
              clear hK K
              refine wpHJ_done (by kernel_rfl) ?_ _
              simp only [onlyN, Exit.then]
              clear hFa
              go_wp2
              have HTF := HT200
              go_roundw
              case rel => exact ⟨i + 1, O ++ (x ++ (sepE q1 ++ 10 :: sepL q2)), k + 2, by omega, by go_num, by rw [catE], HTT.out, by omega, HTF.out⟩
              case measure => simp [intOf]; omega
      · rw [if_neg hj] at ht
        have hm1 := mod_step (i := i) (per := per) (by omega)
        have HTT := hid (show (O ++ (x ++ 32 :: sepA q1)) ++ textR per (nzN noise) (words.drop (i + 1)) ((i + 1) % per) (k + 1) = T from by rw [hm1, ← ht]; simp)
        have hzA := sepA_len q1
        have hzA2 : (⟨(sepA q1).toArray⟩ : ByteArray).size = (sepA q1).length := size_mk _
        have hi1 : (((i : Int) + 1) % (per : Int) != 0) = true := by rw [bne_iff_ne, hmod]; omega
        have hi2 : (Int.tmod ((i : Int) + 1) (per : Int) != 0) = true := by rw [bne_iff_ne, hmt]; omega
        clear ht hmod hmt hn1 hq1e hm1
        go_wp2_with fail
        have HT1 := hid (HTX.out.alloc (.cells #[.string ⟨#[]⟩, .string ⟨#[32]⟩, .string ⟨#[9]⟩, .string ⟨#[9, 32, 9]⟩] 9))
        have HL1 := hid (show Lit4 wo.heap.size sepA (wo.alloc (.cells #[.string ⟨#[]⟩, .string ⟨#[32]⟩, .string ⟨#[9]⟩, .string ⟨#[9, 32, 9]⟩] 9)) from by unfold Lit4; rw [heap_al, if_pos rfl]; rfl)
        have hge1 : w.heap.size + 2 ≤ wo.heap.size := HTX.out.size
        generalize wo.alloc _ = wa at *
        generalize wo.heap.size = na at *
        refine (HX1.out wa HT1.out).mono ?_
        rintro e w1 ⟨rfl, hT1, hkp⟩
        have hca := (HL1.out.nx hkp (by omega)).at q1 hq1
        have HT2 := hid hT1
        clear hT1 hkp
        go_wp2
        go_roundw
        case rel => exact ⟨i + 1, O ++ (x ++ 32 :: sepA q1), k + 1, by omega, by go_num, by rw [catA], HTT.out, by omega, HT2.out⟩
        case measure => simp [intOf]; omega
    · obtain rfl : i = words.length := by omega
      rw [List.drop_length] at ht
      have HF := hid (show O = T from by rw [← ht]; simp [textR])
      clear ht
      go_wp2
      go_ret
      exact ⟨by rw [HF.out]; rfl, HTX.out.bel⟩

end Go.Proofs.YtgldgkaigomceaaDoor
