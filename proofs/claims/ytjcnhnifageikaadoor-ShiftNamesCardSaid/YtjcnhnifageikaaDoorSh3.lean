/-
  Package shift: Shift, walked (OpShr).
-/
import Derived.Test.YtjcnhnifageikaaDoorSh2
namespace Go.Proofs.YtjcnhnifageikaaDoor
set_option linter.unusedSimpArgs false
set_option linter.unusedVariables false
open Go.RowKit Go.Shelf
attribute [local go_sem] Oper.semAt_some

set_option maxRecDepth 100000 in
set_option maxHeartbeats 3200000 in
theorem shift13_c {w0 w : World} {bb n V K m : Nat} {vin vval vx vy : Value} {σ : Nat → Bool} {F : Form} {xs ys : List Int} {a b : List Bool} (h : Bas w0 bb n vin vval V K w σ F) (h1 : 1 ≤ m) (h64 : m ≤ 64) (ix : Ints (Away bb w) w vx xs) (iy : Ints (Away bb w) w vy ys)
    (lx : LitsAre σ F xs a) (ly : LitsAre σ F ys b) (la : a.length = m) (lb : b.length = m) (hV : V + m * m < 1048576) (hK : K + 6 * (m * m) ≤ 1048576) :
    Calls Tryd.prog 11 #[.pointer (some ⟨bb, 0, none⟩), .int .u8 13, vx, vy] w (BasW w0 bb n vin vval V K w σ F (shB 13 a b) (m * m) (6 * (m * m))) := by
  have hW := lx.len.trans la
  have hl := ly.len.trans lb
  obtain ⟨px, cx, rfl, _, _, hrx⟩ := ix.opn hW
  obtain ⟨py, cy, rfl, _, _, hry⟩ := iy.opn hl
  have hB := h.st.c.b
  have hox := lx.1
  have hoy := ly.1
  have d1 : decide ((m : Int) < 1) = false := by simp; omega
  have d2 : decide ((64 : Int) < m) = false := by simp; omega
  have hb1 : Below w.heap.size w (w.alloc (.cells #[.slice px m cx, .slice py m cy] 23)) := (Below.refl _ _).alloc (Nat.le_refl _) _
  have hf1 := FrB.of_below hB hb1
  have hB1 := hB.below hb1
  have ha1 := hB.away_new hb1 (k := w.heap.size) (Nat.le_refl _) (by simp)
  have hc1 : (w.alloc (.cells #[.slice px m cx, .slice py m cy] 23)).heap[w.heap.size]? = some (.cells #[.slice px m cx, .slice py m cy] 23 (0, 0)) := by rw [heap_al, if_pos rfl]
  have HX := hid hox; have HY := hid hoy; have HW := hid hW; have HL := hid hl
  have HRX := hid (hrx.fr hf1); have HRY := hid (hry.fr hf1); have HRY0 := hid hry
  have HB1 := hid hB1; have HA1 := hid ha1; have HC1 := hid hc1; have HF1 := hid hf1
  have HH := hid h; have HLX := hid lx; have HLY := hid ly; have HLA := hid la; have HLB := hid lb; have HVK := hid (And.intro hV hK)
  have HMU := hid (fun (q : Nat) (hq : q + 1 ≤ m) => (show q * m + m ≤ m * m by rw [← Nat.succ_mul]; exact Nat.mul_le_mul_right m hq))
  clear hox hoy hW hl hrx hry hB1 ha1 hc1 hf1 hb1 hB h lx ly la lb ix iy hV hK
  go_enter Tryd.func11, Tryd.ntmps11
  go_wp2_with fail
  generalize hw1 : World.alloc w _ = w1 at *
  clear hw1
  go_loopw [56] (fun i wr => ∃ j : Nat, j ≤ 2 ∧ i = .int .i64 j ∧ IsB wr bb F ∧ FrB bb w1 wr) (fun i _ => 2 - (intOf i).toNat)
  case atStart => exact ⟨0, by omega, rfl, HB1.out, Fr.refl _ _⟩
  case round =>
    obtain ⟨j, hj, rfl, hBw, hfw⟩ := hrel
    obtain ⟨wo, rfl⟩ : ∃ wo : World, wo = wr := ⟨_, rfl⟩
    by_cases hlt : j < 2
    · have hjd : decide ((j : Int) < 2) = true := by simp; omega
      obtain ⟨pz, cz, zs, hcell, hrz, hzl, hzo⟩ : ∃ (pz : Option Addr) (cz : Nat) (zs : List Int), wo.cell? ⟨w.heap.size, j, none⟩ = some (.slice pz m cz) ∧ RowR (Away bb wo) wo pz (zs.map (Value.int .i64)) ∧ zs.length = m ∧ ∀ x ∈ zs, okLit F.vars x = true := by
        have hcw := (hfw.keep _ HA1.out).2.trans HC1.out
        have : j = 0 ∨ j = 1 := by omega
        rcases this with rfl | rfl
        · exact ⟨px, cx, xs, by rw [cell_of_cells hcw]; rfl, HRX.out.fr hfw, HW.out, HX.out⟩
        · exact ⟨py, cy, ys, by rw [cell_of_cells hcw]; rfl, HRY.out.fr hfw, HL.out, HY.out⟩
      have HZO := hid hzo; have HZL := hid hzl; have HBW := hid hBw; have HFW := hid hfw; have HRZ := hid hrz
      clear hzo hzl hBw hfw hrz
      go_wp2_with fail
      go_loopw [62] (fun i wr => ∃ k : Nat, k ≤ m ∧ i = .int .i64 k ∧ IsB wr bb F ∧ FrB bb wo wr) (fun i _ => m - (intOf i).toNat)
      case atStart => exact ⟨0, by omega, rfl, HBW.out, Fr.refl _ _⟩
      case round =>
        obtain ⟨k, hk, rfl, hBk, hfk⟩ := hrel
        obtain ⟨wp, rfl⟩ : ∃ wp : World, wp = wr := ⟨_, rfl⟩
        by_cases hlk : k < m
        · have hkz : k < zs.length := by have := HZL.out; omega
          obtain ⟨b1, o1, rfl, hR1, hcc⟩ := (HRZ.out.fr hfk).atI k hkz
          have hck := hcc k hkz
          have HC := hid (and_self_any bb F zs[k] wp hBk (HZO.out _ (List.getElem_mem hkz)))
          have HFK := hid hfk
          clear hcc hBk hfk hR1
          generalize zs[k] = x at *
          go_wp2_with (go_at_call 29; refine HC.out.mono ?_; rintro e w5 ⟨rfl, hB5, hf5⟩; have HB5 := hid hB5; have HF5 := hid hf5; clear hB5 hf5)
          go_roundw
          case rel => exact ⟨k + 1, by omega, by go_num, HB5.out, HFK.out.trans HF5.out⟩
          case measure => simp [intOf]; omega
        · obtain rfl : k = m := by omega
          have HBK := hid hBk; have HFK := hid hfk
          clear hBk hfk
          go_wp2
          go_roundw
          case rel => exact ⟨j + 1, by omega, by go_num, HBK.out, HFW.out.trans HFK.out⟩
          case measure => simp [intOf]; omega
    · obtain rfl : j = 2 := by omega
      have HBW := hid hBw; have HFW := hid (HF1.out.trans hfw)
      have hrx2 := HRX.out.fr hfw
      have HRX2 := hid hrx2
      clear hBw hfw hrx2 HB1 HA1 HC1 HRX HRY HF1
      go_wp2_with (first | (go_at_call 18; refine (true_any bb _).mono ?_; rintro e w' ⟨rfl, rfl⟩) | (at_builtin; refine wpList_app _ rfl (.const (.slice none 0 0)) (.tmp 78) 23 rfl wo.heap.size 3 (.int .i64 0) 8 Tryd.underlying23 info_int rfl _ 0 _ rfl (World.ownsRow_nil _ _ _ _) px m cx _ rfl (by rw [List.length_map, HW.out]) HRX2.out (ints_one _) (by omega) (by unfold maxLen; omega) (Nat.le_refl _) ?_; intro v1 w2 ho1 hg1 _; simp only [Nat.zero_add, List.nil_append] at ho1; obtain ⟨p1, c1, rfl⟩ := own_slice ho1; have HO1 := hid ho1; have HG1 := hid hg1; clear ho1 hg1))
      have hsz1 := HG1.out.size
      generalize hw3 : World.alloc w2 _ = w3 at *
      have hs3 : w3.heap[w2.heap.size]? = some (.cells #[.slice p1 m c1, .int .i64 (-1)] 72 (0, 0)) := by rw [← hw3, heap_al, if_pos rfl]
      have hb2 : Below wo.heap.size wo w2 := (Below.refl _ _).grown HG1.out (Nat.le_refl _) (fun k hk => by cases hk)
      have hb3 : Below wo.heap.size wo w3 := by rw [← hw3]; exact hb2.alloc hsz1 _
      have hi3 : Ints (fun q => wo.heap.size ≤ q ∧ q < w3.heap.size) w3 (.slice p1 m c1) xs := by
        have ho3 : w3.ownsRow wo.heap.size 3 1 (.slice p1 m c1) m (xs.map (Value.int .i64)) := by rw [← hw3]; exact HO1.out.alloc _
        exact Sl.of_owns ho3 (by omega) (fun k hk => ho3.lt k hk)
      have hlf : LitIs σ F (-1) (fillB 13 a) := ⟨ok_neg HH.out.st.c.good.ok1, HH.out.st.c.good.tm1⟩
      have hsz3 : w3.heap.size = w2.heap.size + 1 := by rw [← hw3]; simp only [World.size_alloc]
      clear hw3 HO1 HG1
      generalize hS : w2.heap.size = S at *
      have HS3 := hid hs3; have HB3 := hid hb3; have HI3 := hid hi3; have HLF := hid hlf
      clear hs3 hb3 hi3 hlf hb2
      have hmm := run_makeMap (P := Tryd.prog) 73 w3
      have hm0 : (w3.alloc (.map #[] 0)).heap[w3.heap.size]? = some (.map #[] 0) := by rw [heap_al, if_pos rfl]
      have hb4 : Below wo.heap.size wo (w3.alloc (.map #[] 0)) := HB3.out.alloc HB3.out.size _
      generalize hw4 : w3.alloc (.map #[] 0) = w4 at *
      rw [hsz3] at hmm hm0
      have hne0 : ∀ x ∈ (#[] : Array MapEntry).toList, ∃ k', x.key = Value.int .u8 k' ∧ k' ≠ 12 := fun x hx => by cases hx
      have hne1 : ∀ x ∈ ((#[] : Array MapEntry).push ⟨.int .u8 12, (.func (.func 30) #[.pointer (some ⟨S, 0, none⟩)] #[]), 0⟩).toList, ∃ k', x.key = Value.int .u8 k' ∧ k' ≠ 13 := fun x hx => by simp at hx; subst hx; exact ⟨12, rfl, by decide⟩
      have hne2 : ∀ x ∈ (((#[] : Array MapEntry).push ⟨.int .u8 12, (.func (.func 30) #[.pointer (some ⟨S, 0, none⟩)] #[]), 0⟩).push ⟨.int .u8 13, (.func (.func 31) #[.pointer (some ⟨S, 0, none⟩)] #[]), 1⟩).toList, ∃ k', x.key = Value.int .u8 k' ∧ k' ≠ 14 := fun x hx => by simp at hx; rcases hx with rfl | rfl; exact ⟨12, rfl, by decide⟩; exact ⟨13, rfl, by decide⟩
      have hfn : Instr.findNow (.int .u8) (.int .u8 13) ((((#[] : Array MapEntry).push ⟨.int .u8 12, (.func (.func 30) #[.pointer (some ⟨S, 0, none⟩)] #[]), 0⟩).push ⟨.int .u8 13, (.func (.func 31) #[.pointer (some ⟨S, 0, none⟩)] #[]), 1⟩).push ⟨.int .u8 14, (.func (.func 31) #[.pointer (some ⟨S, 0, none⟩)] #[]), 2⟩).toList 0 = some (some (1, (.func (.func 31) #[.pointer (some ⟨S, 0, none⟩)] #[]))) := by rfl
      go_wp2_with (first
        | (with_reducible refine wpList_insert8 rfl (.tmp 96) (.tmp 98) 12 73 rfl _ _ Tryd.underlying73 Tryd.underlying5 (S + 1) #[] 0 rfl (.func (.func 30) #[.pointer (some ⟨S, 0, none⟩)] #[]) rfl hm0 hne0 ?_; intro w5 hm1 hg1)
        | (with_reducible refine wpList_insert8 rfl (.tmp 96) (.tmp 100) 13 73 rfl _ _ Tryd.underlying73 Tryd.underlying5 (S + 1) _ 1 rfl (.func (.func 31) #[.pointer (some ⟨S, 0, none⟩)] #[]) rfl hm1 hne1 ?_; intro w6 hm2 hg2)
        | (with_reducible refine wpList_insert8 rfl (.tmp 96) (.tmp 102) 14 73 rfl _ _ Tryd.underlying73 Tryd.underlying5 (S + 1) _ 2 rfl (.func (.func 31) #[.pointer (some ⟨S, 0, none⟩)] #[]) rfl hm2 hne2 ?_; intro w7 hm3 hg3)
        | (with_reducible refine wpList_lookup8 rfl (.tmp 103) (.tmp 104) 13 73 rfl _ _ Tryd.underlying73 Tryd.underlying5 (S + 1) _ 3 rfl hm3 rfl 1 (.func (.func 31) #[.pointer (some ⟨S, 0, none⟩)] #[]) hfn ?_))
      have hb5 := hb4.grown hg1 hb4.size (fun k hk => by cases hk; have := HB3.out.size; omega)
      have hb6 := hb5.grown hg2 hb5.size (fun k hk => by cases hk; have := HB3.out.size; omega)
      have hb7 := hb6.grown hg3 hb6.size (fun k hk => by cases hk; have := HB3.out.size; omega)
      have hk7 : ∀ q, q < S + 1 → w7.heap[q]? = w3.heap[q]? := fun q hq => by
        have e4 : w4.heap[q]? = w3.heap[q]? := by rw [← hw4, heap_al, if_neg (by omega)]
        have s4 : w4.heap.size = S + 2 := by rw [← hw4]; simp only [World.size_alloc]; omega
        have s5 := hg1.size
        have s6 := hg2.size
        have hq' : some q ≠ some (S + 1) := fun e => by cases e; omega
        exact (hg3.block q (by omega) hq').trans ((hg2.block q (by omega) hq').trans ((hg1.block q (by omega) hq').trans e4))
      have hSz : S + 1 ≤ w7.heap.size := by
        have s4 : w4.heap.size = S + 2 := by rw [← hw4]; simp only [World.size_alloc]; omega
        have s5 := hg1.size; have s6 := hg2.size; have s7 := hg3.size
        omega
      have hst : ShI w0 w bb n V K vin vval σ F S m false (-1) (fillB 13 a) a b 0 w7 σ F p1 c1 xs :=
        ShI.start HH.out HBW.out HFW.out hb7 hsz1 ((hk7 S (by omega)).trans HS3.out) (HI3.out.keep fun q hq => ⟨⟨hq.1, by have := hq.2; omega⟩, hk7 q (by have := hq.2; omega)⟩) HLX.out HLF.out
      have HST := hid hst
      clear hst hk7 hSz hb7 hb6 hb5 hb4 hg1 hg2 hg3 hm0 hm1 hm2 hm3 hw4 hmm hne0 hne1 hne2 hfn HS3 HB3 HI3 HBW HRX2 hsz1 hsz3 d1 d2
      go_loopw [108] (fun i wr => ∃ (j : Nat) (σj : Nat → Bool) (Fj : Form) (p : Option Addr) (c : Nat) (zs : List Int), j ≤ m ∧ i = .int .i64 j ∧ ShI w0 w bb n V K vin vval σ F S m false (-1) (fillB 13 a) a b j wr σj Fj p c zs) (fun i _ => m - (intOf i).toNat)
      case atStart => exact ⟨0, σ, F, p1, c1, xs, by omega, rfl, HST.out⟩
      case round =>
        obtain ⟨j, σj, Fj, p, c, zs, hj, rfl, hI⟩ := hrel
        obtain ⟨wq, rfl⟩ : ∃ wq : World, wq = wr := ⟨_, rfl⟩
        by_cases hlt : j < m
        · have hjy : j < ys.length := by have := HL.out; omega
          have hjb : j < b.length := by have := HLB.out; omega
          obtain ⟨by_, oy, rfl, _, hcy⟩ := ((HRY0.out).fr hI.fr).atI j hjy
          have dy := hcy j hjy
          have hyl : LitIs σj Fj ys[j] b[j] := by
            have hh := HLY.out.ext hI.ext
            refine ⟨hh.1 _ (List.getElem_mem hjy), ?_⟩
            have := List.getElem_of_eq hh.2 (i := j) (by rw [List.length_map]; exact hjy)
            rw [List.getElem_map] at this
            exact this
          have HYL := hid hyl; have HI := hid hI
          clear hcy hyl hI
          generalize ys[j] = y at *
          have HZL := hid (show zs.length = m by rw [HI.out.l.len, shL_len]; exact HLA.out)
          by_cases h7 : j < 7
          · have d7 : decide ((j : Int) < 7) = true := by simp; omega
            have hp2 : 2 ^ j ≤ 64 := by
              have := Nat.pow_le_pow_right (n := 2) (by omega) (show j ≤ 6 by omega)
              omega
            obtain ⟨q, hq⟩ : ∃ q : Nat, 2 ^ j = q := ⟨_, rfl⟩
            have hsl : ∀ i : Nat, i = j → wrap64 (2 ^ i) = (q : Int) := by
              rintro i rfl
              have e : ((2 : Int) ^ i) = (q : Int) := by rw [← hq]; simp
              rw [hq] at hp2
              rw [e]
              exact IntWalk.wrap64_in _ (by omega)
            rw [hq] at hp2
            have HQ := hid hq
            clear hq
            rcases Nat.lt_trichotomy m q with hmq | hmq | hmq
            · have hmqi : (m : Int) < (q : Int) := Int.ofNat_lt.2 hmq
              have HFAR := hid (show m = min m (2 ^ j) from by rw [HQ.out]; exact (Nat.min_eq_left (Nat.le_of_lt hmq)).symm)
              have hsd : wq.drew.heap[S]? = wq.heap[S]? := rfl
              have hrd : RowR (Away bb wq) wq.drew p (zs.map (Value.int .i64)) := HI.out.i.row.keep fun k hk => ⟨hk, rfl⟩
              have hqd : m ≤ 64 := h64
              have HC1 := hid (down_c S p m c zs (-1) m wq.drew (Away bb wq) (fun k hk => hk.size) (hsd.trans HI.out.s.2) hrd HZL.out h64 hqd)
              clear hsd hrd hqd
              have hS : (fun W1 : World => W1.cell? ⟨S, 0, none⟩ = some (.slice p m c)) wq := by
                show wq.cell? ⟨S, 0, none⟩ = _
                rw [cell_of_cells HI.out.s.2]; rfl
              go_wp2_with fail
              have hFa : ∀ f, Fence.wide.fn f := fun _ => trivial
              refine (wpIn_wide (n := 9)).1 ?_
              refine wpIn_onlyN ?_
              refine wpIn_region_HJ (fun W1 : World => W1.cell? ⟨S, 0, none⟩ = some (.slice p m c)) 14 (by kernel_rfl) ?_
              simp only [List.size_toArray, List.length_cons, List.length_nil, Nat.reduceAdd]
              refine wpHJ_pure (v := ?va0) 0 hFa rfl (by kernel_rfl) (fun _ _ _ h => h.elim) (Or.inl ⟨by rfl, ?ya0⟩) (.inr hS) ?ra0
              case ya0 => (intro w' _; go_simp; try rfl)
              simp only [Act.put, List.getElem_toArray, List.getElem_cons_succ, List.getElem_cons_zero, List.setIfInBounds_toArray, List.set_cons_zero, List.set_cons_succ]
              refine wpHJ_pure (v := ?va1) 1 hFa rfl (by kernel_rfl) (fun _ _ _ h => h.elim) (Or.inl ⟨by rfl, ?ya1⟩) (.inr hS) ?ra1
              case ya1 => (intro w' _; go_simp; try rfl)
              simp only [Act.put, List.getElem_toArray, List.getElem_cons_succ, List.getElem_cons_zero, List.setIfInBounds_toArray, List.set_cons_zero, List.set_cons_succ]
              refine wpHJ_pure (v := ?va2) 2 hFa rfl (by kernel_rfl) (fun _ _ _ h => h.elim) (Or.inl ⟨by rfl, ?ya2⟩) (.inr hS) ?ra2
              case ya2 => (intro w' _; go_simp; try rfl)
              simp only [Act.put, List.getElem_toArray, List.getElem_cons_succ, List.getElem_cons_zero, List.setIfInBounds_toArray, List.set_cons_zero, List.set_cons_succ]
              refine wpHJ_pure (v := ?va3) 3 hFa rfl (by kernel_rfl) (fun _ _ _ h => h.elim) (Or.inl ⟨by rfl, ?ya3⟩) (.inr hS) ?ra3
              case ya3 => (intro w' _; go_simp; try rfl)
              simp only [Act.put, List.getElem_toArray, List.getElem_cons_succ, List.getElem_cons_zero, List.setIfInBounds_toArray, List.set_cons_zero, List.set_cons_succ]
              refine wpHJ_pure (v := ?va5) 5 hFa rfl (by kernel_rfl) (fun _ _ _ h => h.elim) (Or.inl ⟨by rfl, ?ya5⟩) (.inr hS) ?ra5
              case ya5 => (intro w' _; go_simp; try rfl)
              simp only [Act.put, List.getElem_toArray, List.getElem_cons_succ, List.getElem_cons_zero, List.setIfInBounds_toArray, List.set_cons_zero, List.set_cons_succ]
              refine wpHJ_pure (v := ?va6) 6 hFa rfl (by kernel_rfl) (fun _ _ _ h => h.elim) (Or.inl ⟨by rfl, ?ya6⟩) (.inr hS) ?ra6
              case ya6 => (intro w' _; go_simp; try rfl)
              simp only [Act.put, List.getElem_toArray, List.getElem_cons_succ, List.getElem_cons_zero, List.setIfInBounds_toArray, List.set_cons_zero, List.set_cons_succ]
              refine wpHJ_pure (v := ?va7) 7 hFa rfl (by kernel_rfl) (fun _ _ _ h => h.elim) (Or.inl ⟨by rfl, ?ya7⟩) (.inr hS) ?ra7
              case ya7 => (intro w' _; go_simp; try rfl)
              simp only [Act.put, List.getElem_toArray, List.getElem_cons_succ, List.getElem_cons_zero, List.setIfInBounds_toArray, List.set_cons_zero, List.set_cons_succ]
              refine wpHJ_take (v := ?va8) 8 hFa rfl (by kernel_rfl) (fun _ _ _ h => h.elim) (Or.inl ⟨by rfl, ?ya8⟩) hS ?ra8
              case ya8 => (intro w' hS'; obtain s1 := hS'; go_simp; try rfl)
              simp only [Act.put, List.getElem_toArray, List.getElem_cons_succ, List.getElem_cons_zero, List.setIfInBounds_toArray, List.set_cons_zero, List.set_cons_succ]
              refine wpHJ_only 4 (by kernel_rfl) rfl ?_
              intro K hK
              go_simp
              (with_reducible refine (callsIn_wide.2 HC1.out).mono ?_)
              rintro e w8 ⟨v8, rfl, hi8, hb8⟩
              have hb8 := below_tr' (show Below wq.heap.size wq wq.drew from ⟨rfl, rfl, rfl, Nat.le_refl _, fun _ _ => rfl⟩) hb8 (Nat.le_refl _)
              obtain ⟨p8, c8, rfl, _, _, _⟩ := hi8.opn ((shL_len _ _ _ _).trans HZL.out)
              have hB8 := HI.out.bas.fr hb8
              have hf8 := FrB.of_below HI.out.bas.st.c.b hb8
              have hS8 : (fun W1 : World => W1.cell? ⟨S, 0, none⟩ = some (.slice p m c)) w8 := (hb8.cell (p := ⟨S, 0, none⟩) (HI.out.s.lt)).trans hS
              have HC2 := hid (hB8.choose h1 h64 (hi8.weaken fun k hk => HI.out.bas.st.c.b.away_new hb8 hk.1 hk.2) (HI.out.i.fr hf8) (HI.out.l.sh HI.out.lf false m) HI.out.l (by rw [shL_len, shL_len]; exact HLA.out) (by rw [shL_len]; exact HLA.out) HYL.out (by have := HVK.out.1; have := HMU.out j (by omega); omega) (by have := HVK.out.2; have := HMU.out j (by omega); omega))
              have HF8 := hid hf8
              clear hB8 hf8 hi8 hb8 HC1
              refine hK _ _ (.inr (.inr hS8)) ?_
              clear hK K
              refine wpHJ_only 9 (by kernel_rfl) rfl ?_
              intro K hK
              go_simp
              (with_reducible refine (callsIn_wide.2 HC2.out).mono ?_)
              rintro e w9 ⟨v9, zs9, σ9, F9, rfl, hB9, hi9, hl9, hf9, hx9⟩
              have hz9 : zs9.length = m := by rw [hl9.len]; unfold chooseB; split <;> (rw [shL_len]; try rw [shL_len]) <;> exact HLA.out
              obtain ⟨p9, c9, rfl, _, _, _⟩ := hi9.opn hz9
              have hs9 := (HI.out.s.fr HF8.out).fr hf9
              have hS9 : (fun W1 : World => W1.cell? ⟨S, 0, none⟩ = some (.slice p m c)) w9 := by
                show w9.cell? ⟨S, 0, none⟩ = _
                rw [cell_of_cells hs9.2]; rfl
              have hfz9 : w9.frozen? ⟨S, 0, none⟩ = false := frozen_of_cells hs9.2
              rw [HFAR.out] at hl9
              have HN := hid (HI.out.next (by have := HLB.out; omega) HLA.out hB9 (HF8.out.trans hf9) hx9 hi9 hl9)
              clear hB9 hi9 hl9 hf9 hx9 hs9 hz9 HC2 HF8
              refine hK _ _ (.inr (.inr hS9)) ?_
              clear hK K
              refine wpHJ_pure (v := ?va10) 10 hFa rfl (by kernel_rfl) (fun _ _ _ h => h.elim) (Or.inl ⟨by rfl, ?ya10⟩) (.inr hS9) ?ra10
              case ya10 => (intro w' _; go_simp; try rfl)
              simp only [Act.put, List.getElem_toArray, List.getElem_cons_succ, List.getElem_cons_zero, List.setIfInBounds_toArray, List.set_cons_zero, List.set_cons_succ]
              refine wpHJ_pure (v := ?va11) 11 hFa rfl (by kernel_rfl) (fun _ _ _ h => h.elim) (Or.inl ⟨by rfl, ?ya11⟩) (.inr hS9) ?ra11
              case ya11 => (intro w' _; go_simp; try rfl)
              simp only [Act.put, List.getElem_toArray, List.getElem_cons_succ, List.getElem_cons_zero, List.setIfInBounds_toArray, List.set_cons_zero, List.set_cons_succ]
              refine wpHJ_pure (v := ?va12) 12 hFa rfl (by kernel_rfl) (fun _ _ _ h => h.elim) (Or.inl ⟨by rfl, ?ya12⟩) (.inr hS9) ?ra12
              case ya12 => (intro w' _; go_simp; try rfl)
              simp only [Act.put, List.getElem_toArray, List.getElem_cons_succ, List.getElem_cons_zero, List.setIfInBounds_toArray, List.set_cons_zero, List.set_cons_succ]
              refine wpHJ_pure (v := ?va13) 13 hFa rfl (by kernel_rfl) (fun _ _ _ h => h.elim) (Or.inl ⟨by rfl, ?ya13⟩) (.inr hS9) ?ra13
              case ya13 => (intro w' _; go_simp; try rfl)
              simp only [Act.put, List.getElem_toArray, List.getElem_cons_succ, List.getElem_cons_zero, List.setIfInBounds_toArray, List.set_cons_zero, List.set_cons_succ]
              refine wpHJ_only 14 (by kernel_rfl) rfl ?_
              intro K hK
              go_simp
              refine hK _ _ (.inl rfl) ?_
              clear hK K
              refine wpHJ_done (by kernel_rfl) ?_ _
              simp only [onlyN, Exit.then]
              clear hFa
              have g9 : w9.cell? ⟨S, 0, none⟩ = some (.slice p m c) := hS9
              clear hS hS9
              go_wp2
              go_roundw
              case rel => exact ⟨j + 1, σ9, F9, p9, c9, zs9, by omega, by go_num, HN.out⟩
              case measure => simp [intOf]; omega

            · subst hmq
              clear hp2
              have HFAR := hid (show m = min m (2 ^ j) from by rw [HQ.out]; exact (Nat.min_self m).symm)
              have hsd : wq.drew.heap[S]? = wq.heap[S]? := rfl
              have hrd : RowR (Away bb wq) wq.drew p (zs.map (Value.int .i64)) := HI.out.i.row.keep fun k hk => ⟨hk, rfl⟩
              have hqd : m ≤ 64 := h64
              have HC1 := hid (down_c S p m c zs (-1) m wq.drew (Away bb wq) (fun k hk => hk.size) (hsd.trans HI.out.s.2) hrd HZL.out h64 hqd)
              clear hsd hrd hqd
              have hS : (fun W1 : World => W1.cell? ⟨S, 0, none⟩ = some (.slice p m c)) wq := by
                show wq.cell? ⟨S, 0, none⟩ = _
                rw [cell_of_cells HI.out.s.2]; rfl
              go_wp2_with fail
              have hFa : ∀ f, Fence.wide.fn f := fun _ => trivial
              refine (wpIn_wide (n := 9)).1 ?_
              refine wpIn_onlyN ?_
              refine wpIn_region_HJ (fun W1 : World => W1.cell? ⟨S, 0, none⟩ = some (.slice p m c)) 14 (by kernel_rfl) ?_
              simp only [List.size_toArray, List.length_cons, List.length_nil, Nat.reduceAdd]
              refine wpHJ_pure (v := ?vb0) 0 hFa rfl (by kernel_rfl) (fun _ _ _ h => h.elim) (Or.inl ⟨by rfl, ?yb0⟩) (.inr hS) ?rb0
              case yb0 => (intro w' _; go_simp; try rfl)
              simp only [Act.put, List.getElem_toArray, List.getElem_cons_succ, List.getElem_cons_zero, List.setIfInBounds_toArray, List.set_cons_zero, List.set_cons_succ]
              refine wpHJ_pure (v := ?vb1) 1 hFa rfl (by kernel_rfl) (fun _ _ _ h => h.elim) (Or.inl ⟨by rfl, ?yb1⟩) (.inr hS) ?rb1
              case yb1 => (intro w' _; go_simp; try rfl)
              simp only [Act.put, List.getElem_toArray, List.getElem_cons_succ, List.getElem_cons_zero, List.setIfInBounds_toArray, List.set_cons_zero, List.set_cons_succ]
              refine wpHJ_pure (v := ?vb2) 2 hFa rfl (by kernel_rfl) (fun _ _ _ h => h.elim) (Or.inl ⟨by rfl, ?yb2⟩) (.inr hS) ?rb2
              case yb2 => (intro w' _; go_simp; try rfl)
              simp only [Act.put, List.getElem_toArray, List.getElem_cons_succ, List.getElem_cons_zero, List.setIfInBounds_toArray, List.set_cons_zero, List.set_cons_succ]
              refine wpHJ_pure (v := ?vb3) 3 hFa rfl (by kernel_rfl) (fun _ _ _ h => h.elim) (Or.inl ⟨by rfl, ?yb3⟩) (.inr hS) ?rb3
              case yb3 => (intro w' _; go_simp; try rfl)
              simp only [Act.put, List.getElem_toArray, List.getElem_cons_succ, List.getElem_cons_zero, List.setIfInBounds_toArray, List.set_cons_zero, List.set_cons_succ]
              refine wpHJ_pure (v := ?vb5) 5 hFa rfl (by kernel_rfl) (fun _ _ _ h => h.elim) (Or.inl ⟨by rfl, ?yb5⟩) (.inr hS) ?rb5
              case yb5 => (intro w' _; go_simp; try rfl)
              simp only [Act.put, List.getElem_toArray, List.getElem_cons_succ, List.getElem_cons_zero, List.setIfInBounds_toArray, List.set_cons_zero, List.set_cons_succ]
              refine wpHJ_pure (v := ?vb6) 6 hFa rfl (by kernel_rfl) (fun _ _ _ h => h.elim) (Or.inl ⟨by rfl, ?yb6⟩) (.inr hS) ?rb6
              case yb6 => (intro w' _; go_simp; try rfl)
              simp only [Act.put, List.getElem_toArray, List.getElem_cons_succ, List.getElem_cons_zero, List.setIfInBounds_toArray, List.set_cons_zero, List.set_cons_succ]
              refine wpHJ_pure (v := ?vb7) 7 hFa rfl (by kernel_rfl) (fun _ _ _ h => h.elim) (Or.inl ⟨by rfl, ?yb7⟩) (.inr hS) ?rb7
              case yb7 => (intro w' _; go_simp; try rfl)
              simp only [Act.put, List.getElem_toArray, List.getElem_cons_succ, List.getElem_cons_zero, List.setIfInBounds_toArray, List.set_cons_zero, List.set_cons_succ]
              refine wpHJ_take (v := ?vb8) 8 hFa rfl (by kernel_rfl) (fun _ _ _ h => h.elim) (Or.inl ⟨by rfl, ?yb8⟩) hS ?rb8
              case yb8 => (intro w' hS'; obtain s1 := hS'; go_simp; try rfl)
              simp only [Act.put, List.getElem_toArray, List.getElem_cons_succ, List.getElem_cons_zero, List.setIfInBounds_toArray, List.set_cons_zero, List.set_cons_succ]
              refine wpHJ_only 4 (by kernel_rfl) rfl ?_
              intro K hK
              go_simp
              (with_reducible refine (callsIn_wide.2 HC1.out).mono ?_)
              rintro e w8 ⟨v8, rfl, hi8, hb8⟩
              have hb8 := below_tr' (show Below wq.heap.size wq wq.drew from ⟨rfl, rfl, rfl, Nat.le_refl _, fun _ _ => rfl⟩) hb8 (Nat.le_refl _)
              obtain ⟨p8, c8, rfl, _, _, _⟩ := hi8.opn ((shL_len _ _ _ _).trans HZL.out)
              have hB8 := HI.out.bas.fr hb8
              have hf8 := FrB.of_below HI.out.bas.st.c.b hb8
              have hS8 : (fun W1 : World => W1.cell? ⟨S, 0, none⟩ = some (.slice p m c)) w8 := (hb8.cell (p := ⟨S, 0, none⟩) (HI.out.s.lt)).trans hS
              have HC2 := hid (hB8.choose h1 h64 (hi8.weaken fun k hk => HI.out.bas.st.c.b.away_new hb8 hk.1 hk.2) (HI.out.i.fr hf8) (HI.out.l.sh HI.out.lf false m) HI.out.l (by rw [shL_len, shL_len]; exact HLA.out) (by rw [shL_len]; exact HLA.out) HYL.out (by have := HVK.out.1; have := HMU.out j (by omega); omega) (by have := HVK.out.2; have := HMU.out j (by omega); omega))
              have HF8 := hid hf8
              clear hB8 hf8 hi8 hb8 HC1
              refine hK _ _ (.inr (.inr hS8)) ?_
              clear hK K
              refine wpHJ_only 9 (by kernel_rfl) rfl ?_
              intro K hK
              go_simp
              (with_reducible refine (callsIn_wide.2 HC2.out).mono ?_)
              rintro e w9 ⟨v9, zs9, σ9, F9, rfl, hB9, hi9, hl9, hf9, hx9⟩
              have hz9 : zs9.length = m := by rw [hl9.len]; unfold chooseB; split <;> (rw [shL_len]; try rw [shL_len]) <;> exact HLA.out
              obtain ⟨p9, c9, rfl, _, _, _⟩ := hi9.opn hz9
              have hs9 := (HI.out.s.fr HF8.out).fr hf9
              have hS9 : (fun W1 : World => W1.cell? ⟨S, 0, none⟩ = some (.slice p m c)) w9 := by
                show w9.cell? ⟨S, 0, none⟩ = _
                rw [cell_of_cells hs9.2]; rfl
              have hfz9 : w9.frozen? ⟨S, 0, none⟩ = false := frozen_of_cells hs9.2
              rw [HFAR.out] at hl9
              have HN := hid (HI.out.next (by have := HLB.out; omega) HLA.out hB9 (HF8.out.trans hf9) hx9 hi9 hl9)
              clear hB9 hi9 hl9 hf9 hx9 hs9 hz9 HC2 HF8
              refine hK _ _ (.inr (.inr hS9)) ?_
              clear hK K
              refine wpHJ_pure (v := ?vb10) 10 hFa rfl (by kernel_rfl) (fun _ _ _ h => h.elim) (Or.inl ⟨by rfl, ?yb10⟩) (.inr hS9) ?rb10
              case yb10 => (intro w' _; go_simp; try rfl)
              simp only [Act.put, List.getElem_toArray, List.getElem_cons_succ, List.getElem_cons_zero, List.setIfInBounds_toArray, List.set_cons_zero, List.set_cons_succ]
              refine wpHJ_pure (v := ?vb11) 11 hFa rfl (by kernel_rfl) (fun _ _ _ h => h.elim) (Or.inl ⟨by rfl, ?yb11⟩) (.inr hS9) ?rb11
              case yb11 => (intro w' _; go_simp; try rfl)
              simp only [Act.put, List.getElem_toArray, List.getElem_cons_succ, List.getElem_cons_zero, List.setIfInBounds_toArray, List.set_cons_zero, List.set_cons_succ]
              refine wpHJ_pure (v := ?vb12) 12 hFa rfl (by kernel_rfl) (fun _ _ _ h => h.elim) (Or.inl ⟨by rfl, ?yb12⟩) (.inr hS9) ?rb12
              case yb12 => (intro w' _; go_simp; try rfl)
              simp only [Act.put, List.getElem_toArray, List.getElem_cons_succ, List.getElem_cons_zero, List.setIfInBounds_toArray, List.set_cons_zero, List.set_cons_succ]
              refine wpHJ_pure (v := ?vb13) 13 hFa rfl (by kernel_rfl) (fun _ _ _ h => h.elim) (Or.inl ⟨by rfl, ?yb13⟩) (.inr hS9) ?rb13
              case yb13 => (intro w' _; go_simp; try rfl)
              simp only [Act.put, List.getElem_toArray, List.getElem_cons_succ, List.getElem_cons_zero, List.setIfInBounds_toArray, List.set_cons_zero, List.set_cons_succ]
              refine wpHJ_only 14 (by kernel_rfl) rfl ?_
              intro K hK
              go_simp
              refine hK _ _ (.inl rfl) ?_
              clear hK K
              refine wpHJ_done (by kernel_rfl) ?_ _
              simp only [onlyN, Exit.then]
              clear hFa
              have g9 : w9.cell? ⟨S, 0, none⟩ = some (.slice p m c) := hS9
              clear hS hS9
              go_wp2
              go_roundw
              case rel => exact ⟨j + 1, σ9, F9, p9, c9, zs9, by omega, by go_num, HN.out⟩
              case measure => simp [intOf]; omega

            · have hmqi : (q : Int) < (m : Int) := Int.ofNat_lt.2 hmq
              have HFAR := hid (show q = min m (2 ^ j) from by rw [HQ.out]; exact (Nat.min_eq_right (Nat.le_of_lt hmq)).symm)
              have hsd : wq.drew.heap[S]? = wq.heap[S]? := rfl
              have hrd : RowR (Away bb wq) wq.drew p (zs.map (Value.int .i64)) := HI.out.i.row.keep fun k hk => ⟨hk, rfl⟩
              have hqd : q ≤ 64 := (Nat.le_trans (Nat.le_of_lt hmq) h64)
              have HC1 := hid (down_c S p m c zs (-1) q wq.drew (Away bb wq) (fun k hk => hk.size) (hsd.trans HI.out.s.2) hrd HZL.out h64 hqd)
              clear hsd hrd hqd
              have hS : (fun W1 : World => W1.cell? ⟨S, 0, none⟩ = some (.slice p m c)) wq := by
                show wq.cell? ⟨S, 0, none⟩ = _
                rw [cell_of_cells HI.out.s.2]; rfl
              go_wp2_with fail
              have hFa : ∀ f, Fence.wide.fn f := fun _ => trivial
              refine (wpIn_wide (n := 9)).1 ?_
              refine wpIn_onlyN ?_
              refine wpIn_region_HJ (fun W1 : World => W1.cell? ⟨S, 0, none⟩ = some (.slice p m c)) 14 (by kernel_rfl) ?_
              simp only [List.size_toArray, List.length_cons, List.length_nil, Nat.reduceAdd]
              refine wpHJ_pure (v := ?vc0) 0 hFa rfl (by kernel_rfl) (fun _ _ _ h => h.elim) (Or.inl ⟨by rfl, ?yc0⟩) (.inr hS) ?rc0
              case yc0 => (intro w' _; go_simp; try rfl)
              simp only [Act.put, List.getElem_toArray, List.getElem_cons_succ, List.getElem_cons_zero, List.setIfInBounds_toArray, List.set_cons_zero, List.set_cons_succ]
              refine wpHJ_pure (v := ?vc1) 1 hFa rfl (by kernel_rfl) (fun _ _ _ h => h.elim) (Or.inl ⟨by rfl, ?yc1⟩) (.inr hS) ?rc1
              case yc1 => (intro w' _; go_simp; try rfl)
              simp only [Act.put, List.getElem_toArray, List.getElem_cons_succ, List.getElem_cons_zero, List.setIfInBounds_toArray, List.set_cons_zero, List.set_cons_succ]
              refine wpHJ_pure (v := ?vc2) 2 hFa rfl (by kernel_rfl) (fun _ _ _ h => h.elim) (Or.inl ⟨by rfl, ?yc2⟩) (.inr hS) ?rc2
              case yc2 => (intro w' _; go_simp; try rfl)
              simp only [Act.put, List.getElem_toArray, List.getElem_cons_succ, List.getElem_cons_zero, List.setIfInBounds_toArray, List.set_cons_zero, List.set_cons_succ]
              refine wpHJ_pure (v := ?vc3) 3 hFa rfl (by kernel_rfl) (fun _ _ _ h => h.elim) (Or.inl ⟨by rfl, ?yc3⟩) (.inr hS) ?rc3
              case yc3 => (intro w' _; go_simp; try rfl)
              simp only [Act.put, List.getElem_toArray, List.getElem_cons_succ, List.getElem_cons_zero, List.setIfInBounds_toArray, List.set_cons_zero, List.set_cons_succ]
              refine wpHJ_pure (v := ?vc5) 5 hFa rfl (by kernel_rfl) (fun _ _ _ h => h.elim) (Or.inl ⟨by rfl, ?yc5⟩) (.inr hS) ?rc5
              case yc5 => (intro w' _; go_simp; try rfl)
              simp only [Act.put, List.getElem_toArray, List.getElem_cons_succ, List.getElem_cons_zero, List.setIfInBounds_toArray, List.set_cons_zero, List.set_cons_succ]
              refine wpHJ_pure (v := ?vc6) 6 hFa rfl (by kernel_rfl) (fun _ _ _ h => h.elim) (Or.inl ⟨by rfl, ?yc6⟩) (.inr hS) ?rc6
              case yc6 => (intro w' _; go_simp; try rfl)
              simp only [Act.put, List.getElem_toArray, List.getElem_cons_succ, List.getElem_cons_zero, List.setIfInBounds_toArray, List.set_cons_zero, List.set_cons_succ]
              refine wpHJ_pure (v := ?vc7) 7 hFa rfl (by kernel_rfl) (fun _ _ _ h => h.elim) (Or.inl ⟨by rfl, ?yc7⟩) (.inr hS) ?rc7
              case yc7 => (intro w' _; go_simp; try rfl)
              simp only [Act.put, List.getElem_toArray, List.getElem_cons_succ, List.getElem_cons_zero, List.setIfInBounds_toArray, List.set_cons_zero, List.set_cons_succ]
              refine wpHJ_take (v := ?vc8) 8 hFa rfl (by kernel_rfl) (fun _ _ _ h => h.elim) (Or.inl ⟨by rfl, ?yc8⟩) hS ?rc8
              case yc8 => (intro w' hS'; obtain s1 := hS'; go_simp; try rfl)
              simp only [Act.put, List.getElem_toArray, List.getElem_cons_succ, List.getElem_cons_zero, List.setIfInBounds_toArray, List.set_cons_zero, List.set_cons_succ]
              refine wpHJ_only 4 (by kernel_rfl) rfl ?_
              intro K hK
              go_simp
              (with_reducible refine (callsIn_wide.2 HC1.out).mono ?_)
              rintro e w8 ⟨v8, rfl, hi8, hb8⟩
              have hb8 := below_tr' (show Below wq.heap.size wq wq.drew from ⟨rfl, rfl, rfl, Nat.le_refl _, fun _ _ => rfl⟩) hb8 (Nat.le_refl _)
              obtain ⟨p8, c8, rfl, _, _, _⟩ := hi8.opn ((shL_len _ _ _ _).trans HZL.out)
              have hB8 := HI.out.bas.fr hb8
              have hf8 := FrB.of_below HI.out.bas.st.c.b hb8
              have hS8 : (fun W1 : World => W1.cell? ⟨S, 0, none⟩ = some (.slice p m c)) w8 := (hb8.cell (p := ⟨S, 0, none⟩) (HI.out.s.lt)).trans hS
              have HC2 := hid (hB8.choose h1 h64 (hi8.weaken fun k hk => HI.out.bas.st.c.b.away_new hb8 hk.1 hk.2) (HI.out.i.fr hf8) (HI.out.l.sh HI.out.lf false q) HI.out.l (by rw [shL_len, shL_len]; exact HLA.out) (by rw [shL_len]; exact HLA.out) HYL.out (by have := HVK.out.1; have := HMU.out j (by omega); omega) (by have := HVK.out.2; have := HMU.out j (by omega); omega))
              have HF8 := hid hf8
              clear hB8 hf8 hi8 hb8 HC1
              refine hK _ _ (.inr (.inr hS8)) ?_
              clear hK K
              refine wpHJ_only 9 (by kernel_rfl) rfl ?_
              intro K hK
              go_simp
              (with_reducible refine (callsIn_wide.2 HC2.out).mono ?_)
              rintro e w9 ⟨v9, zs9, σ9, F9, rfl, hB9, hi9, hl9, hf9, hx9⟩
              have hz9 : zs9.length = m := by rw [hl9.len]; unfold chooseB; split <;> (rw [shL_len]; try rw [shL_len]) <;> exact HLA.out
              obtain ⟨p9, c9, rfl, _, _, _⟩ := hi9.opn hz9
              have hs9 := (HI.out.s.fr HF8.out).fr hf9
              have hS9 : (fun W1 : World => W1.cell? ⟨S, 0, none⟩ = some (.slice p m c)) w9 := by
                show w9.cell? ⟨S, 0, none⟩ = _
                rw [cell_of_cells hs9.2]; rfl
              have hfz9 : w9.frozen? ⟨S, 0, none⟩ = false := frozen_of_cells hs9.2
              rw [HFAR.out] at hl9
              have HN := hid (HI.out.next (by have := HLB.out; omega) HLA.out hB9 (HF8.out.trans hf9) hx9 hi9 hl9)
              clear hB9 hi9 hl9 hf9 hx9 hs9 hz9 HC2 HF8
              refine hK _ _ (.inr (.inr hS9)) ?_
              clear hK K
              refine wpHJ_pure (v := ?vc10) 10 hFa rfl (by kernel_rfl) (fun _ _ _ h => h.elim) (Or.inl ⟨by rfl, ?yc10⟩) (.inr hS9) ?rc10
              case yc10 => (intro w' _; go_simp; try rfl)
              simp only [Act.put, List.getElem_toArray, List.getElem_cons_succ, List.getElem_cons_zero, List.setIfInBounds_toArray, List.set_cons_zero, List.set_cons_succ]
              refine wpHJ_pure (v := ?vc11) 11 hFa rfl (by kernel_rfl) (fun _ _ _ h => h.elim) (Or.inl ⟨by rfl, ?yc11⟩) (.inr hS9) ?rc11
              case yc11 => (intro w' _; go_simp; try rfl)
              simp only [Act.put, List.getElem_toArray, List.getElem_cons_succ, List.getElem_cons_zero, List.setIfInBounds_toArray, List.set_cons_zero, List.set_cons_succ]
              refine wpHJ_pure (v := ?vc12) 12 hFa rfl (by kernel_rfl) (fun _ _ _ h => h.elim) (Or.inl ⟨by rfl, ?yc12⟩) (.inr hS9) ?rc12
              case yc12 => (intro w' _; go_simp; try rfl)
              simp only [Act.put, List.getElem_toArray, List.getElem_cons_succ, List.getElem_cons_zero, List.setIfInBounds_toArray, List.set_cons_zero, List.set_cons_succ]
              refine wpHJ_pure (v := ?vc13) 13 hFa rfl (by kernel_rfl) (fun _ _ _ h => h.elim) (Or.inl ⟨by rfl, ?yc13⟩) (.inr hS9) ?rc13
              case yc13 => (intro w' _; go_simp; try rfl)
              simp only [Act.put, List.getElem_toArray, List.getElem_cons_succ, List.getElem_cons_zero, List.setIfInBounds_toArray, List.set_cons_zero, List.set_cons_succ]
              refine wpHJ_only 14 (by kernel_rfl) rfl ?_
              intro K hK
              go_simp
              refine hK _ _ (.inl rfl) ?_
              clear hK K
              refine wpHJ_done (by kernel_rfl) ?_ _
              simp only [onlyN, Exit.then]
              clear hFa
              have g9 : w9.cell? ⟨S, 0, none⟩ = some (.slice p m c) := hS9
              clear hS hS9
              go_wp2
              go_roundw
              case rel => exact ⟨j + 1, σ9, F9, p9, c9, zs9, by omega, by go_num, HN.out⟩
              case measure => simp [intOf]; omega

          · have d7 : decide ((j : Int) < 7) = false := by simp; omega
            have hp2 : 128 ≤ 2 ^ j := by
              have := Nat.pow_le_pow_right (n := 2) (by omega) (show 7 ≤ j by omega)
              omega
            have HP2 := hid hp2
            clear hp2
            have HFAR := hid (show m = min m (2 ^ j) from by have := HP2.out; omega)
            have hsd : wq.drew.heap[S]? = wq.heap[S]? := rfl
            have hrd : RowR (Away bb wq) wq.drew p (zs.map (Value.int .i64)) := HI.out.i.row.keep fun k hk => ⟨hk, rfl⟩
            have hqd : m ≤ 64 := h64
            have HC1 := hid (down_c S p m c zs (-1) m wq.drew (Away bb wq) (fun k hk => hk.size) (hsd.trans HI.out.s.2) hrd HZL.out h64 hqd)
            clear hsd hrd hqd
            have hS : (fun W1 : World => W1.cell? ⟨S, 0, none⟩ = some (.slice p m c)) wq := by
              show wq.cell? ⟨S, 0, none⟩ = _
              rw [cell_of_cells HI.out.s.2]; rfl
            go_wp2_with fail
            have hFa : ∀ f, Fence.wide.fn f := fun _ => trivial
            refine (wpIn_wide (n := 9)).1 ?_
            refine wpIn_onlyN ?_
            refine wpIn_region_HJ (fun W1 : World => W1.cell? ⟨S, 0, none⟩ = some (.slice p m c)) 14 (by kernel_rfl) ?_
            simp only [List.size_toArray, List.length_cons, List.length_nil, Nat.reduceAdd]
            refine wpHJ_pure (v := ?vd0) 0 hFa rfl (by kernel_rfl) (fun _ _ _ h => h.elim) (Or.inl ⟨by rfl, ?yd0⟩) (.inr hS) ?rd0
            case yd0 => (intro w' _; go_simp; try rfl)
            simp only [Act.put, List.getElem_toArray, List.getElem_cons_succ, List.getElem_cons_zero, List.setIfInBounds_toArray, List.set_cons_zero, List.set_cons_succ]
            refine wpHJ_pure (v := ?vd1) 1 hFa rfl (by kernel_rfl) (fun _ _ _ h => h.elim) (Or.inl ⟨by rfl, ?yd1⟩) (.inr hS) ?rd1
            case yd1 => (intro w' _; go_simp; try rfl)
            simp only [Act.put, List.getElem_toArray, List.getElem_cons_succ, List.getElem_cons_zero, List.setIfInBounds_toArray, List.set_cons_zero, List.set_cons_succ]
            refine wpHJ_pure (v := ?vd2) 2 hFa rfl (by kernel_rfl) (fun _ _ _ h => h.elim) (Or.inl ⟨by rfl, ?yd2⟩) (.inr hS) ?rd2
            case yd2 => (intro w' _; go_simp; try rfl)
            simp only [Act.put, List.getElem_toArray, List.getElem_cons_succ, List.getElem_cons_zero, List.setIfInBounds_toArray, List.set_cons_zero, List.set_cons_succ]
            refine wpHJ_pure (v := ?vd3) 3 hFa rfl (by kernel_rfl) (fun _ _ _ h => h.elim) (Or.inl ⟨by rfl, ?yd3⟩) (.inr hS) ?rd3
            case yd3 => (intro w' _; go_simp; try rfl)
            simp only [Act.put, List.getElem_toArray, List.getElem_cons_succ, List.getElem_cons_zero, List.setIfInBounds_toArray, List.set_cons_zero, List.set_cons_succ]
            refine wpHJ_pure (v := ?vd5) 5 hFa rfl (by kernel_rfl) (fun _ _ _ h => h.elim) (Or.inl ⟨by rfl, ?yd5⟩) (.inr hS) ?rd5
            case yd5 => (intro w' _; go_simp; try rfl)
            simp only [Act.put, List.getElem_toArray, List.getElem_cons_succ, List.getElem_cons_zero, List.setIfInBounds_toArray, List.set_cons_zero, List.set_cons_succ]
            refine wpHJ_pure (v := ?vd6) 6 hFa rfl (by kernel_rfl) (fun _ _ _ h => h.elim) (Or.inl ⟨by rfl, ?yd6⟩) (.inr hS) ?rd6
            case yd6 => (intro w' _; go_simp; try rfl)
            simp only [Act.put, List.getElem_toArray, List.getElem_cons_succ, List.getElem_cons_zero, List.setIfInBounds_toArray, List.set_cons_zero, List.set_cons_succ]
            refine wpHJ_pure (v := ?vd7) 7 hFa rfl (by kernel_rfl) (fun _ _ _ h => h.elim) (Or.inl ⟨by rfl, ?yd7⟩) (.inr hS) ?rd7
            case yd7 => (intro w' _; go_simp; try rfl)
            simp only [Act.put, List.getElem_toArray, List.getElem_cons_succ, List.getElem_cons_zero, List.setIfInBounds_toArray, List.set_cons_zero, List.set_cons_succ]
            refine wpHJ_take (v := ?vd8) 8 hFa rfl (by kernel_rfl) (fun _ _ _ h => h.elim) (Or.inl ⟨by rfl, ?yd8⟩) hS ?rd8
            case yd8 => (intro w' hS'; obtain s1 := hS'; go_simp; try rfl)
            simp only [Act.put, List.getElem_toArray, List.getElem_cons_succ, List.getElem_cons_zero, List.setIfInBounds_toArray, List.set_cons_zero, List.set_cons_succ]
            refine wpHJ_only 4 (by kernel_rfl) rfl ?_
            intro K hK
            go_simp
            (with_reducible refine (callsIn_wide.2 HC1.out).mono ?_)
            rintro e w8 ⟨v8, rfl, hi8, hb8⟩
            have hb8 := below_tr' (show Below wq.heap.size wq wq.drew from ⟨rfl, rfl, rfl, Nat.le_refl _, fun _ _ => rfl⟩) hb8 (Nat.le_refl _)
            obtain ⟨p8, c8, rfl, _, _, _⟩ := hi8.opn ((shL_len _ _ _ _).trans HZL.out)
            have hB8 := HI.out.bas.fr hb8
            have hf8 := FrB.of_below HI.out.bas.st.c.b hb8
            have hS8 : (fun W1 : World => W1.cell? ⟨S, 0, none⟩ = some (.slice p m c)) w8 := (hb8.cell (p := ⟨S, 0, none⟩) (HI.out.s.lt)).trans hS
            have HC2 := hid (hB8.choose h1 h64 (hi8.weaken fun k hk => HI.out.bas.st.c.b.away_new hb8 hk.1 hk.2) (HI.out.i.fr hf8) (HI.out.l.sh HI.out.lf false m) HI.out.l (by rw [shL_len, shL_len]; exact HLA.out) (by rw [shL_len]; exact HLA.out) HYL.out (by have := HVK.out.1; have := HMU.out j (by omega); omega) (by have := HVK.out.2; have := HMU.out j (by omega); omega))
            have HF8 := hid hf8
            clear hB8 hf8 hi8 hb8 HC1
            refine hK _ _ (.inr (.inr hS8)) ?_
            clear hK K
            refine wpHJ_only 9 (by kernel_rfl) rfl ?_
            intro K hK
            go_simp
            (with_reducible refine (callsIn_wide.2 HC2.out).mono ?_)
            rintro e w9 ⟨v9, zs9, σ9, F9, rfl, hB9, hi9, hl9, hf9, hx9⟩
            have hz9 : zs9.length = m := by rw [hl9.len]; unfold chooseB; split <;> (rw [shL_len]; try rw [shL_len]) <;> exact HLA.out
            obtain ⟨p9, c9, rfl, _, _, _⟩ := hi9.opn hz9
            have hs9 := (HI.out.s.fr HF8.out).fr hf9
            have hS9 : (fun W1 : World => W1.cell? ⟨S, 0, none⟩ = some (.slice p m c)) w9 := by
              show w9.cell? ⟨S, 0, none⟩ = _
              rw [cell_of_cells hs9.2]; rfl
            have hfz9 : w9.frozen? ⟨S, 0, none⟩ = false := frozen_of_cells hs9.2
            rw [HFAR.out] at hl9
            have HN := hid (HI.out.next (by have := HLB.out; omega) HLA.out hB9 (HF8.out.trans hf9) hx9 hi9 hl9)
            clear hB9 hi9 hl9 hf9 hx9 hs9 hz9 HC2 HF8
            refine hK _ _ (.inr (.inr hS9)) ?_
            clear hK K
            refine wpHJ_pure (v := ?vd10) 10 hFa rfl (by kernel_rfl) (fun _ _ _ h => h.elim) (Or.inl ⟨by rfl, ?yd10⟩) (.inr hS9) ?rd10
            case yd10 => (intro w' _; go_simp; try rfl)
            simp only [Act.put, List.getElem_toArray, List.getElem_cons_succ, List.getElem_cons_zero, List.setIfInBounds_toArray, List.set_cons_zero, List.set_cons_succ]
            refine wpHJ_pure (v := ?vd11) 11 hFa rfl (by kernel_rfl) (fun _ _ _ h => h.elim) (Or.inl ⟨by rfl, ?yd11⟩) (.inr hS9) ?rd11
            case yd11 => (intro w' _; go_simp; try rfl)
            simp only [Act.put, List.getElem_toArray, List.getElem_cons_succ, List.getElem_cons_zero, List.setIfInBounds_toArray, List.set_cons_zero, List.set_cons_succ]
            refine wpHJ_pure (v := ?vd12) 12 hFa rfl (by kernel_rfl) (fun _ _ _ h => h.elim) (Or.inl ⟨by rfl, ?yd12⟩) (.inr hS9) ?rd12
            case yd12 => (intro w' _; go_simp; try rfl)
            simp only [Act.put, List.getElem_toArray, List.getElem_cons_succ, List.getElem_cons_zero, List.setIfInBounds_toArray, List.set_cons_zero, List.set_cons_succ]
            refine wpHJ_pure (v := ?vd13) 13 hFa rfl (by kernel_rfl) (fun _ _ _ h => h.elim) (Or.inl ⟨by rfl, ?yd13⟩) (.inr hS9) ?rd13
            case yd13 => (intro w' _; go_simp; try rfl)
            simp only [Act.put, List.getElem_toArray, List.getElem_cons_succ, List.getElem_cons_zero, List.setIfInBounds_toArray, List.set_cons_zero, List.set_cons_succ]
            refine wpHJ_only 14 (by kernel_rfl) rfl ?_
            intro K hK
            go_simp
            refine hK _ _ (.inl rfl) ?_
            clear hK K
            refine wpHJ_done (by kernel_rfl) ?_ _
            simp only [onlyN, Exit.then]
            clear hFa
            have g9 : w9.cell? ⟨S, 0, none⟩ = some (.slice p m c) := hS9
            clear hS hS9
            go_wp2
            go_roundw
            case rel => exact ⟨j + 1, σ9, F9, p9, c9, zs9, by omega, by go_num, HN.out⟩
            case measure => simp [intOf]; omega

        · obtain rfl : j = m := by omega
          have hbits := hI.l
          rw [List.take_of_length_le (by have := HLB.out; omega)] at hbits
          have hz : zs.length = j := by rw [hbits.len, shL_len]; exact HLA.out
          have hg0 : wq.cell? ⟨S, 0, none⟩ = some (.slice p j c) := by rw [cell_of_cells hI.s.2]; rfl
          have HFIN := hid (show BasW w0 bb n vin vval V K w σ F (shB 13 a b) (j * j) (6 * (j * j)) (.returned (.tuple #[.slice p j c, .int .i64 0])) wq from
            ⟨_, zs, σj, Fj, rfl, hI.bas, hI.i, hbits, hI.fr, hI.ext⟩)
          clear hbits hI hz
          go_wp2
          go_ret2
          exact HFIN.out

end Go.Proofs.YtjcnhnifageikaaDoor
