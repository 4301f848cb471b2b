/-
  The reference of reports: the lines of a leak.
-/
import Derived.Test.YtehjfmbnebeioaaDoorReS
import Derived.Test.YtehjfmbnebeioaaDoorRpK
import Derived.Test.YtehjfmbnebeioaaDoorRpC
import Derived.Deep.DeepCutAuto
namespace Go.Proofs.YtehjfmbnebeioaaDoor
set_option linter.unusedSimpArgs false
set_option linter.unusedVariables false
open Go.RowKit Go.Shelf
attribute [local go_sem] Oper.semAt_some

theorem atL_in {ls : List (List Nat)} {i : Nat} (h : i < ls.length) : atL ls i = ls[i] := by unfold atL List.getD; rw [List.getElem?_eq_getElem h]; rfl
theorem atL_out {ls : List (List Nat)} {i : Nat} (h : ls.length ≤ i) : atL ls i = [] := by unfold atL List.getD; rw [List.getElem?_eq_none h]; rfl
theorem two_own (w : World) (a b : By) : (w.alloc (.cells #[.string ⟨a.toArray⟩, .string ⟨b.toArray⟩] 9)).ownsRow w.heap.size 9 1 (.slice (some ⟨w.heap.size, 0, none⟩) 2 2) 2 [sV a, sV b] := World.ownsRow_lit (base := w.heap.size) (e := 9) (size := 1) w #[.string ⟨a.toArray⟩, .string ⟨b.toArray⟩] 2 (Nat.le_refl _) (by unfold maxLen; omega) rfl
set_option maxRecDepth 100000 in
set_option maxHeartbeats 2000000 in
theorem rinputs_any (word name : By) (ls : List (List Nat)) (v : Value) (i : Nat) (R : Nat → Prop) (w : World) (hv : NLL R w v ls) (hR : ∀ k, R k → k < w.heap.size) (hi : i ≤ 1000000) (hn : ∀ l ∈ ls, ∀ x ∈ l, x ≤ 18446744073709551615) (hl : ∀ l ∈ ls, l.length ≤ 900) (h1 : word.length ≤ 1000) (h2 : name.length ≤ 1000) :
    Calls Tryd.prog 52 #[.string ⟨word.toArray⟩, .string ⟨name.toArray⟩, v, .int .i64 (i : Int)] w fun e w' => e = .returned (.string ⟨(rowR word name (atL ls i)).toArray⟩) ∧ Below w.heap.size w w' := by
  have HJ := hid (fun (l : List Nat) (hl : l.length ≤ 900) (hx : ∀ x ∈ l, x ≤ 18446744073709551615) (o : Value) (W : World) (ho : W.ownsRow w.heap.size 9 1 o (2 + l.length) ((word :: name :: l.map Lib.decDigits).map sV)) => show Calls Tryd.prog 43 #[o] W fun e w' => e = .returned (.string ⟨(rowR word name l).toArray⟩) ∧ Below W.heap.size W w' from by
    have hs : Strs (fun _ => True) W o (word :: name :: l.map Lib.decDigits) := by
      exact Sl.of_owns ho (by omega) fun _ _ => trivial
    have h := rjoinR_any _ o _ W hs (by simp; omega) (fun s hs => by
      rcases List.mem_cons.1 hs with rfl | hs
      · exact h1
      rcases List.mem_cons.1 hs with rfl | hs
      · exact h2
      · obtain ⟨x, hx', rfl⟩ := List.mem_map.1 hs
        rw [Lib.decDigits_length]; have := nDigits_20 x (hx x hx'); omega)
    rwa [row_jnR] at h)
  obtain ⟨p, c, us, rfl, g1, g2, g3, hr, hul, hx⟩ := hv.op
  have z1 := size_mkS word; have z2 := size_mkS name
  by_cases hil : i < ls.length
  · obtain ⟨b0, o0, rfl, hR0, hcc⟩ := hr.at i (by omega)
    have hc0 := hcc i (by omega)
    have hxi := hx i hil (by omega)
    obtain ⟨L, hL⟩ : ∃ L, ls[i] = L := ⟨_, rfl⟩
    have HA := hid (show atL ls i = L from by rw [atL_in hil, hL])
    rw [hL] at hxi
    have hLn : L.length ≤ 900 := by rw [← hL]; exact hl _ (List.getElem_mem hil)
    have HLX := hid (show ∀ x ∈ L, x ≤ 18446744073709551615 from by rw [← hL]; exact hn _ (List.getElem_mem hil))
    obtain ⟨p1, c1, hue, k1, k2, k3, hr1⟩ := hxi.op
    rw [hue] at hc0
    have HR1 := hid hr1; have HC0 := hid hc0; have HR0 := hid (hR _ hR0); have HRR := hid hR
    have t1 : decide ((i : Int) < (ls.length : Int)) = true := decide_eq_true (by omega)
    have HO0 := hid (two_own w word name)
    obtain ⟨nls, hnls⟩ : ∃ n, ls.length = n := ⟨_, rfl⟩
    rw [hnls] at hil g1 t1 ⊢
    clear hcc hc0 hx hul hr hv hL hxi hr1 hl hn h1 h2 hR hue
    go_enter Tryd.func52, Tryd.ntmps52
    go_wp2_with fail
    have HB0 := hid (show Below w.heap.size w (w.alloc (.cells #[.string ⟨word.toArray⟩, .string ⟨name.toArray⟩] 9)) from (Below.refl _ _).alloc (Nat.le_refl _) _)
    generalize w.alloc _ = W0 at *
    go_loopw [9, 10] (fun ov kv wr => ∃ k : Nat, k ≤ L.length ∧ kv = .int .i64 (k : Int) ∧ wr.ownsRow w.heap.size 9 1 ov (2 + k) ((word :: name :: (L.take k).map Lib.decDigits).map sV) ∧ Below w.heap.size w wr) (fun _ kv _ => L.length - (intOf kv).toNat)
    case atStart => exact ⟨0, Nat.zero_le _, rfl, HO0.out, HB0.out⟩
    case round =>
      obtain ⟨k, hk, rfl, ho, hb⟩ := hrel
      obtain ⟨wo, rfl⟩ : ∃ wo : World, wo = wr := ⟨_, rfl⟩
      obtain ⟨po, co, rfl⟩ := owns_sliceL ho
      have HO := hid ho; have HB := hid hb
      have c0 := (hb.cell (p := ⟨b0, o0 + i, none⟩) HR0.out).trans HC0.out
      clear ho hb
      by_cases hlt : k < L.length
      · have t2 : decide ((k : Int) < (L.length : Int)) = true := decide_eq_true (by omega)
        obtain ⟨b1, o1, rfl, hRb, hcc⟩ := HR1.out.atN k hlt
        have c1' := (HB.out.cell (p := ⟨b1, o1 + k, none⟩) (HRR.out _ hRb)).trans (hcc k hlt)
        have HXN := hid (HLX.out _ (List.getElem_mem hlt))
        have HSN := hid (show (L.take (k + 1)).map Lib.decDigits = (L.take k).map Lib.decDigits ++ [Lib.decDigits L[k]] from by rw [List.take_add_one, List.getElem?_eq_getElem hlt, List.map_append]; rfl)
        clear hcc hRb
        generalize L[k] = x at *
        have HNX := hid (fun W => rnumR_any x HXN.out W)
        have hsz := HB.out.size
        obtain ⟨D, hD⟩ : ∃ D, Lib.decDigits x = D := ⟨_, rfl⟩
        rw [hD] at HSN HNX
        clear hD
        go_wp2_with (first
          | (go_at_call 53; (with_reducible refine (HNX.out _).mono ?_); rintro e w4 ⟨rfl, hb4⟩; have HB4 := hid hb4; have hs4 := hb4.size; clear hb4)
          | (at_builtin; refine wpList_app _ rfl (.tmp 29) (.tmp 38) 27 rfl w.heap.size 9 (.string ⟨#[]⟩) 16 Tryd.underlying27 info_strC rfl _ (2 + k) _ rfl ((owns_keepL HO.out fun j hj => HB4.out.block j (HO.out.lt j hj).2).alloc _) (some ⟨w4.heap.size, 0, none⟩) 1 1 [sV D] rfl rfl (RowR.lit (R := fun _ => True) w4 [sV D] 9 trivial) (by simp [sV, Value.oneCell']) (by omega) (by unfold maxLen; omega) (by rw [World.size_alloc]; omega) ?_; intro v5 w5 ho5 hg5 _; have HO5 := hid ho5; have HG5 := hid hg5; clear ho5 hg5))
        go_roundw
        case rel => exact ⟨k + 1, by omega, by go_num, by rw [HSN.out]; have h5 := HO5.out; simpa [Nat.add_assoc] using h5, ((HB.out.trans (HB4.out.mono HB.out.size)).alloc (by omega) _).grown HG5.out (by rw [World.size_alloc]; omega) (fun j hj => (HO.out.lt j hj).1)⟩
        case measure => simp [intOf]; omega
      · obtain rfl : k = L.length := by omega
        have t2 : decide ((L.length : Int) < (L.length : Int)) = false := decide_eq_false (by omega)
        have HJ2 := hid (HJ.out L hLn HLX.out _ wo (by have h := HO.out; rwa [List.take_length] at h))
        go_wp2_with (go_at_call 43; (with_reducible refine HJ2.out.mono ?_); rintro e w6 ⟨rfl, hb6⟩; have HB6 := hid (HB.out.trans (hb6.mono HB.out.size)); clear hb6)
        go_ret
        exact ⟨by rw [HA.out]; rfl, HB6.out⟩
  · have HA := hid (show atL ls i = [] from atL_out (by omega))
    have t1 : decide ((i : Int) < (ls.length : Int)) = false := decide_eq_false (by omega)
    have HO0 := hid (two_own w word name)
    obtain ⟨nls, hnls⟩ : ∃ n, ls.length = n := ⟨_, rfl⟩
    rw [hnls] at hil g1 t1 ⊢
    clear hx hul hr hv hl hn h1 h2 hR
    go_enter Tryd.func52, Tryd.ntmps52
    go_wp2_with fail
    have HB0 := hid (show Below w.heap.size w (w.alloc (.cells #[.string ⟨word.toArray⟩, .string ⟨name.toArray⟩] 9)) from (Below.refl _ _).alloc (Nat.le_refl _) _)
    generalize w.alloc _ = W0 at *
    go_loopw [9, 10] (fun ov kv wr => kv = .int .i64 0 ∧ ov = .slice (some ⟨w.heap.size, 0, none⟩) 2 2 ∧ wr = W0) (fun _ _ _ => 0)
    case atStart => exact ⟨rfl, rfl, rfl⟩
    case round =>
      obtain ⟨rfl, rfl, rfl⟩ := hrel
      have HJ2 := hid (HJ.out [] (by decide) (fun x hx => by cases hx) _ wr HO0.out)
      go_wp2_with (go_at_call 43; (with_reducible refine HJ2.out.mono ?_); rintro e w6 ⟨rfl, hb6⟩; have HB6 := hid (HB0.out.trans (hb6.mono HB0.out.size)); clear hb6)
      go_ret
      exact ⟨by rw [HA.out]; rfl, HB6.out⟩

theorem strs_in {R : Nat → Prop} {w w' : World} {v : Value} {l : List By} (h : Strs R w v l) (hR : ∀ i, R i → i < w.heap.size) (hb : Below w.heap.size w w') : Strs (fun i => i < w'.heap.size) w' v l := h.keep fun i hi => ⟨Nat.lt_of_lt_of_le (hR i hi) hb.size, hb.block i (hR i hi)⟩
set_option maxRecDepth 100000 in
set_option maxHeartbeats 8000000 in
theorem rleak_any (k r n : Nat) (A B : List (List Nat)) (imp pol : Bool) (ln co er : Int) (pA pB : Option Addr) (cA cB : Nat) (levels chans : List By) (vl vc : Value) (R : Nat → Prop) (w : World) (hvl : Strs R w vl levels) (hvc : Strs R w vc chans) (hA : NLL R w (.slice pA A.length cA) A) (hB : NLL R w (.slice pB B.length cB) B) (hR : ∀ i, R i → i < w.heap.size)
    (hAn : ∀ l ∈ A, ∀ x ∈ l, x ≤ 18446744073709551615) (hBn : ∀ l ∈ B, ∀ x ∈ l, x ≤ 18446744073709551615) (hAl : ∀ l ∈ A, l.length ≤ 900) (hBl : ∀ l ∈ B, l.length ≤ 900) (hls : ∀ s ∈ levels, s.length ≤ 1000) (hcs : ∀ s ∈ chans, s.length ≤ 1000) (hcl : chans.length ≤ 1000000) (hnl : n < levels.length) (ha : A.length ≤ chans.length) (hb : B.length ≤ chans.length) :
    Calls Tryd.prog 42 #[.agg #[.int .u8 (k : Int), .int .u8 (r : Int), .int .i64 (n : Int), .slice pA A.length cA, .slice pB B.length cB, .bool imp, .bool pol, .int .i64 ln, .int .i64 co, .int .i64 er], vl, vc] w fun e w' => Below w.heap.size w w' ∧ ∃ p c, e = .returned (.slice p (leakR (⟨k, r, (n : Int), A, B, imp, pol, ln, co, er⟩ : Vd) levels chans).1.length c) ∧ Strs (fun i => i < w'.heap.size) w' (.slice p (leakR (⟨k, r, (n : Int), A, B, imp, pol, ln, co, er⟩ : Vd) levels chans).1.length c) (leakR (⟨k, r, (n : Int), A, B, imp, pol, ln, co, er⟩ : Vd) levels chans).1 := by
  obtain ⟨pl, cl, rfl, gl1, gl2, gl3, hrl⟩ := hvl.op
  obtain ⟨pc, cc, rfl, gc1, gc2, gc3, hrc⟩ := hvc.op
  have hb0 : Below w.heap.size w (w.alloc (.cells #[.int .u8 (k : Int), .int .u8 (r : Int), .int .i64 (n : Int), .slice pA A.length cA, .slice pB B.length cB, .bool imp, .bool pol, .int .i64 ln, .int .i64 co, .int .i64 er] 35)) := (Below.refl _ _).alloc (Nat.le_refl _) _
  have HB0 := hid hb0
  obtain ⟨bl, ol, rfl, hRl, hccl⟩ := hrl.atS n hnl
  have hcell := (hb0.cell (p := ⟨bl, ol + n, none⟩) (hR _ hRl)).trans (hccl n hnl)
  have hnm : levels[n].length ≤ 1000 := hls _ (List.getElem_mem hnl)
  have zn := size_mkS levels[n]
  obtain ⟨FS, hFS⟩ : ∃ s, jnR [wLeak, [97, 116], levels[n], wHow imp] = s := ⟨_, rfl⟩
  have HV := hid (show leakR (⟨k, r, (n : Int), A, B, imp, pol, ln, co, er⟩ : Vd) levels chans = (FS :: chanR (⟨k, r, (n : Int), A, B, imp, pol, ln, co, er⟩ : Vd) chans chans.length, 0) from by
    unfold leakR
    rw [if_neg (by dsimp only; omega), if_neg (by dsimp only; omega), ← hFS, leak_jnR]
    have e : levels.getD n [] = levels[n] := by unfold List.getD; rw [List.getElem?_eq_getElem hnl]; rfl
    simp only [Int.toNat_natCast, e])
  have HNA := hid hA; have HNB := hid hB; have HRC := hid hrc; have HCS := hid hcs; have HAn := hid hAn; have HBn := hid hBn; have HAl := hid hAl; have HBl := hid hBl
  obtain ⟨nm, hnme⟩ : ∃ s, levels[n] = s := ⟨_, rfl⟩
  rw [hnme] at hcell hnm zn hFS
  have HJF := hid (show ∀ (W : World), Calls Tryd.prog 43 #[.slice (some ⟨W.heap.size, 0, none⟩) 4 4] (W.alloc (.cells #[.string ⟨#[76, 69, 65, 75]⟩, .string ⟨#[97, 116]⟩, .string ⟨nm.toArray⟩, .string ⟨(wHow imp).toArray⟩] 9)) (fun e w' => e = .returned (.string ⟨FS.toArray⟩) ∧ Below (W.alloc (.cells #[.string ⟨#[76, 69, 65, 75]⟩, .string ⟨#[97, 116]⟩, .string ⟨nm.toArray⟩, .string ⟨(wHow imp).toArray⟩] 9)).heap.size (W.alloc (.cells #[.string ⟨#[76, 69, 65, 75]⟩, .string ⟨#[97, 116]⟩, .string ⟨nm.toArray⟩, .string ⟨(wHow imp).toArray⟩] 9)) w') from fun W => by
    have h := rjoinR_any [wLeak, [97, 116], nm, wHow imp] (.slice (some ⟨W.heap.size, 0, none⟩) 4 4) (fun _ => True) (W.alloc (.cells #[.string ⟨#[76, 69, 65, 75]⟩, .string ⟨#[97, 116]⟩, .string ⟨nm.toArray⟩, .string ⟨(wHow imp).toArray⟩] 9)) ⟨_, 4, rfl, Nat.le_refl _, by unfold maxLen; omega, by simp, RowR.lit W [sV wLeak, sV [97, 116], sV nm, sV (wHow imp)] 9 trivial⟩ (by simp) (fun s hs => by
      simp only [List.mem_cons, List.not_mem_nil, or_false] at hs
      rcases hs with rfl | rfl | rfl | rfl
      · decide
      · decide
      · exact hnm
      · cases imp <;> decide)
    rwa [hFS] at h)
  clear hvl hvc hA hB hAn hBn hAl hBl hls hcs hrl hrc hccl hnme hFS hnm
  obtain ⟨W0, hW0⟩ : ∃ W, w.alloc (.cells #[.int .u8 (k : Int), .int .u8 (r : Int), .int .i64 (n : Int), .slice pA A.length cA, .slice pB B.length cB, .bool imp, .bool pol, .int .i64 ln, .int .i64 co, .int .i64 er] 35) = W := ⟨_, rfl⟩
  rw [hW0] at HB0 hb0 hcell
  have hcb : W0.heap[w.heap.size]? = some (.cells #[.int .u8 (k : Int), .int .u8 (r : Int), .int .i64 (n : Int), .slice pA A.length cA, .slice pB B.length cB, .bool imp, .bool pol, .int .i64 ln, .int .i64 co, .int .i64 er] 35 (0, 0)) := by rw [← hW0, heap_al, if_pos rfl]
  have hsz0 : W0.heap.size = w.heap.size + 1 := by rw [← hW0, World.size_alloc]
  have HSZ0 := hid hsz0
  have c2 : W0.cell? ⟨w.heap.size, 2, none⟩ = some (.int .i64 (n : Int)) := by rw [cell_of_row W0 _ 2 _ _ _ hcb]; rfl
  have c3 : W0.cell? ⟨w.heap.size, 3, none⟩ = some (.slice pA A.length cA) := by rw [cell_of_row W0 _ 3 _ _ _ hcb]; rfl
  have c4 : W0.cell? ⟨w.heap.size, 4, none⟩ = some (.slice pB B.length cB) := by rw [cell_of_row W0 _ 4 _ _ _ hcb]; rfl
  have c5 : W0.cell? ⟨w.heap.size, 5, none⟩ = some (.bool imp) := by rw [cell_of_row W0 _ 5 _ _ _ hcb]; rfl
  have HC3 := hid c3; have HC4 := hid c4
  have HWW := hid hW0
  have hn0 : (0 : Int) ≤ (n : Int) := Int.natCast_nonneg n
  clear hcb hW0 hb0 hsz0
  cases imp
  · have HJ2 := hid (show Calls Tryd.prog 43 #[.slice (some ⟨W0.heap.size, 0, none⟩) 4 4] (W0.alloc (.cells #[.string ⟨#[76, 69, 65, 75]⟩, .string ⟨#[97, 116]⟩, .string ⟨nm.toArray⟩, .string ⟨#[101, 120, 112, 108, 105, 99, 105, 116]⟩] 9)) (fun e w' => e = .returned (.string ⟨FS.toArray⟩) ∧ Below (W0.alloc (.cells #[.string ⟨#[76, 69, 65, 75]⟩, .string ⟨#[97, 116]⟩, .string ⟨nm.toArray⟩, .string ⟨#[101, 120, 112, 108, 105, 99, 105, 116]⟩] 9)).heap.size (W0.alloc (.cells #[.string ⟨#[76, 69, 65, 75]⟩, .string ⟨#[97, 116]⟩, .string ⟨nm.toArray⟩, .string ⟨#[101, 120, 112, 108, 105, 99, 105, 116]⟩] 9)) w') from HJF.out W0)
    clear HJF
    go_enter Tryd.func42, Tryd.ntmps42
    go_upto_region 4 with (first | (rw [HWW.out]))
    go_upto_region 5 with (go_at_call 43; (with_reducible refine HJ2.out.mono ?_); rintro e wj ⟨rfl, hbj⟩; have HBJ := hid hbj; clear hbj)
    clear c2 c5 hcell zn
    have hbj : Below (w.heap.size + 1) W0 wj ∧ w.heap.size + 1 ≤ wj.heap.size := by
      have h1 : Below W0.heap.size W0 wj := ((Below.refl _ _).alloc (Nat.le_refl _) _).trans (HBJ.out.mono (by rw [World.size_alloc]; omega))
      rw [HSZ0.out] at h1
      exact ⟨h1, by have := h1.size; have := HSZ0.out; omega⟩
    have ho0 : (wj.alloc (.cells #[.string ⟨FS.toArray⟩] 9)).ownsRow (w.heap.size + 1) 9 1 (.slice (some ⟨wj.heap.size, 0, none⟩) 1 1) 1 [sV FS] := World.ownsRow_lit (base := w.heap.size + 1) (e := 9) (size := 1) wj #[.string ⟨FS.toArray⟩] 1 hbj.2 (by unfold maxLen; omega) rfl
    have hw1 : Below (w.heap.size + 1) W0 (wj.alloc (.cells #[.string ⟨FS.toArray⟩] 9)) ∧ w.heap.size + 1 ≤ (wj.alloc (.cells #[.string ⟨FS.toArray⟩] 9)).heap.size := ⟨hbj.1.alloc hbj.2 _, by rw [World.size_alloc]; omega⟩
    have HO0 := hid ho0; have HW1 := hid hw1
    clear ho0 hw1 hbj HBJ
    generalize wj.alloc _ = W1 at *
    generalize wj.heap.size = bj at *
    have hch0 := chanR_len (⟨k, r, (n : Int), A, B, false, pol, ln, co, er⟩ : Vd) chans
    have HCL := hid hch0
    clear hch0
    go_wp2_with fail
    go_loopw [8, 9] (fun ov xv W => ∃ j : Nat, xv = .int .i64 (j : Int) ∧ j ≤ chans.length ∧ W.ownsRow (w.heap.size + 1) 9 1 ov (1 + 2 * j) ((FS :: chanR (⟨k, r, (n : Int), A, B, false, pol, ln, co, er⟩ : Vd) chans j).map sV) ∧ Below (w.heap.size + 1) W0 W ∧ w.heap.size + 1 ≤ W.heap.size) (fun _ xv _ => chans.length - (intOf xv).toNat)
    case atStart => exact ⟨0, rfl, Nat.zero_le _, HO0.out, HW1.out.1, HW1.out.2⟩
    case round =>
      obtain ⟨j, rfl, hj, ho, hwb⟩ := hrel
      obtain ⟨wo, rfl⟩ : ∃ wo : World, wo = wr := ⟨_, rfl⟩
      obtain ⟨po, co2, rfl⟩ := owns_sliceL ho
      have HO := hid ho; have HWB := hid hwb
      clear ho hwb
      by_cases hjl : j < chans.length
      · have t1 : decide ((j : Int) < (chans.length : Int)) = true := decide_eq_true (by omega)
        obtain ⟨b4, o4, rfl, hR4, hcc4⟩ := HRC.out.atS j hjl
        have hkp : ∀ W, Below wo.heap.size wo W → ∀ i, i < w.heap.size → W.heap[i]? = w.heap[i]? := fun W hW i hi => (hW.block i (by have := HWB.out.2; omega)).trans ((HWB.out.1.block i (by omega)).trans (HB0.out.block i hi))
        have hnc : wo.cell? ⟨b4, o4 + j, none⟩ = some (.string ⟨(chans[j]).toArray⟩) := (World.cell?_of_block (a := ⟨b4, o4 + j, none⟩) (hkp wo (Below.refl _ _) b4 (hR _ hR4))).trans (hcc4 j hjl)
        have hn0c : W0.cell? ⟨b4, o4 + j, none⟩ = some (.string ⟨(chans[j]).toArray⟩) := (HB0.out.cell (p := ⟨b4, o4 + j, none⟩) (hR _ hR4)).trans (hcc4 j hjl)
        have hcn := HCS.out _ (List.getElem_mem hjl)
        have HSN := hid (chanR_snoc (⟨k, r, (n : Int), A, B, false, pol, ln, co, er⟩ : Vd) chans j hjl)
        obtain ⟨x1, hx1⟩ : ∃ x, rowR wFirst chans[j] (atL A j) = x := ⟨_, rfl⟩
        obtain ⟨x2, hx2⟩ : ∃ x, rowR wSecond chans[j] (atL B j) = x := ⟨_, rfl⟩
        have HR1 := hid (fun W (hW : Below wo.heap.size wo W) => show Calls Tryd.prog 52 #[.string ⟨#[102, 105, 114, 115, 116]⟩, .string ⟨(chans[j]).toArray⟩, .slice pA A.length cA, .int .i64 (j : Int)] W fun e w' => e = .returned (.string ⟨x1.toArray⟩) ∧ Below W.heap.size W w' from by
          rw [← hx1]; exact rinputs_any wFirst chans[j] A _ j (fun i => i < w.heap.size) W (HNA.out.keep fun i hi => ⟨hR i hi, hkp W hW i (hR i hi)⟩) (fun i hi => by have := hW.size; have := HWB.out.2; omega) (by omega) HAn.out HAl.out (by decide) hcn)
        have HR2 := hid (fun W (hW : Below wo.heap.size wo W) => show Calls Tryd.prog 52 #[.string ⟨#[115, 101, 99, 111, 110, 100]⟩, .string ⟨(chans[j]).toArray⟩, .slice pB B.length cB, .int .i64 (j : Int)] W fun e w' => e = .returned (.string ⟨x2.toArray⟩) ∧ Below W.heap.size W w' from by
          rw [← hx2]; exact rinputs_any wSecond chans[j] B _ j (fun i => i < w.heap.size) W (HNB.out.keep fun i hi => ⟨hR i hi, hkp W hW i (hR i hi)⟩) (fun i hi => by have := hW.size; have := HWB.out.2; omega) (by omega) HBn.out HBl.out (by decide) hcn)
        have HSN2 := hid (show (FS :: chanR (⟨k, r, (n : Int), A, B, false, pol, ln, co, er⟩ : Vd) chans (j + 1)).map sV = (FS :: chanR (⟨k, r, (n : Int), A, B, false, pol, ln, co, er⟩ : Vd) chans j).map sV ++ [sV x1, sV x2] from by rw [HSN.out, ← hx1, ← hx2]; simp)
        have c3 := (HWB.out.1.cell (p := ⟨w.heap.size, 3, none⟩) (by show w.heap.size < w.heap.size + 1; omega)).trans HC3.out
        have c4 := (HWB.out.1.cell (p := ⟨w.heap.size, 4, none⟩) (by show w.heap.size < w.heap.size + 1; omega)).trans HC4.out
        have hbw : w.heap.size < wo.heap.size := by have := HWB.out.2; omega
        obtain ⟨nmj, hnmj⟩ : ∃ s, chans[j] = s := ⟨_, rfl⟩
        rw [hnmj] at hnc hn0c HR1 HR2
        have HCN := hid hn0c
        have HR4 := hid (hR _ hR4)
        have HS := hid (show ∀ W', Below wo.heap.size wo W' → (fun W' : World => W'.cell? ⟨w.heap.size, 3, none⟩ = some (.slice pA A.length cA) ∧ W'.cell? ⟨w.heap.size, 4, none⟩ = some (.slice pB B.length cB) ∧ W'.cell? ⟨b4, o4 + j, none⟩ = some (.string ⟨nmj.toArray⟩)) W' from fun W' h => ⟨(h.cell (p := ⟨w.heap.size, 3, none⟩) hbw).trans c3, (h.cell (p := ⟨w.heap.size, 4, none⟩) hbw).trans c4, (h.cell (p := ⟨b4, o4 + j, none⟩) (by show b4 < _; have := HR4.out; omega)).trans hnc⟩)
        have hS : (fun W' : World => W'.cell? ⟨w.heap.size, 3, none⟩ = some (.slice pA A.length cA) ∧ W'.cell? ⟨w.heap.size, 4, none⟩ = some (.slice pB B.length cB) ∧ W'.cell? ⟨b4, o4 + j, none⟩ = some (.string ⟨nmj.toArray⟩)) wo.drew := ⟨c3, c4, hnc⟩
        clear hkp hcc4 HSN hx1 hx2 hn0c hR4 hcn hnmj
        go_upto_region 8 with fail
        have hFa : ∀ f, Fence.wide.fn f := fun _ => trivial
        refine (wpIn_wide (n := 9)).1 ?_
        refine wpIn_onlyN ?_
        refine wpIn_region_HJ (fun W' : World => W'.cell? ⟨w.heap.size, 3, none⟩ = some (.slice pA A.length cA) ∧ W'.cell? ⟨w.heap.size, 4, none⟩ = some (.slice pB B.length cB) ∧ W'.cell? ⟨b4, o4 + j, none⟩ = some (.string ⟨nmj.toArray⟩)) 21 (by kernel_rfl) ?_
        simp only [List.size_toArray, List.length_cons, List.length_nil, Nat.reduceAdd]
        refine wpHJ_pure (v := ?vm0) 0 hFa rfl (by kernel_rfl) (fun _ _ _ h => h.elim) (Or.inl ⟨by rfl, ?ym0⟩) (.inr hS) ?rm0
        case ym0 => (intro w' _; (try go_simp); try rfl)
        simp only [Act.put, List.getElem_toArray, List.getElem_cons_succ, List.getElem_cons_zero, List.setIfInBounds_toArray, List.set_cons_zero, List.set_cons_succ]
        refine wpHJ_pure (v := ?vm1) 1 hFa rfl (by kernel_rfl) (fun _ _ _ h => h.elim) (Or.inl ⟨by rfl, ?ym1⟩) (.inr hS) ?rm1
        case ym1 => (intro w' _; (try go_simp); try rfl)
        simp only [Act.put, List.getElem_toArray, List.getElem_cons_succ, List.getElem_cons_zero, List.setIfInBounds_toArray, List.set_cons_zero, List.set_cons_succ]
        refine wpHJ_pure (v := ?vm2) 2 hFa rfl (by kernel_rfl) (fun _ _ _ h => h.elim) (Or.inl ⟨by rfl, ?ym2⟩) (.inr hS) ?rm2
        case ym2 => (intro w' _; (try go_simp); try rfl)
        simp only [Act.put, List.getElem_toArray, List.getElem_cons_succ, List.getElem_cons_zero, List.setIfInBounds_toArray, List.set_cons_zero, List.set_cons_succ]
        refine wpHJ_pure (v := ?vm3) 3 hFa rfl (by kernel_rfl) (fun _ _ _ h => h.elim) (Or.inl ⟨by rfl, ?ym3⟩) (.inr hS) ?rm3
        case ym3 => (intro w' _; (try go_simp); try rfl)
        simp only [Act.put, List.getElem_toArray, List.getElem_cons_succ, List.getElem_cons_zero, List.setIfInBounds_toArray, List.set_cons_zero, List.set_cons_succ]
        refine wpHJ_take (v := ?vm4) 4 hFa rfl (by kernel_rfl) (fun _ _ _ h => h.elim) (Or.inl ⟨by rfl, ?ym4⟩) hS ?rm4
        case ym4 => (intro w' hS'; obtain ⟨s1, s2, s3⟩ := hS'; (try go_simp); try rfl)
        simp only [Act.put, List.getElem_toArray, List.getElem_cons_succ, List.getElem_cons_zero, List.setIfInBounds_toArray, List.set_cons_zero, List.set_cons_succ]
        refine wpHJ_pure (v := ?vm5) 5 hFa rfl (by kernel_rfl) (fun _ _ _ h => h.elim) (Or.inl ⟨by rfl, ?ym5⟩) (.inr hS) ?rm5
        case ym5 => (intro w' _; (try go_simp); try rfl)
        simp only [Act.put, List.getElem_toArray, List.getElem_cons_succ, List.getElem_cons_zero, List.setIfInBounds_toArray, List.set_cons_zero, List.set_cons_succ]
        refine wpHJ_pure (v := ?vm6) 6 hFa rfl (by kernel_rfl) (fun _ _ _ h => h.elim) (Or.inl ⟨by rfl, ?ym6⟩) (.inr hS) ?rm6
        case ym6 => (intro w' _; (try go_simp); try rfl)
        simp only [Act.put, List.getElem_toArray, List.getElem_cons_succ, List.getElem_cons_zero, List.setIfInBounds_toArray, List.set_cons_zero, List.set_cons_succ]
        refine wpHJ_take (v := ?vm7) 7 hFa rfl (by kernel_rfl) (fun _ _ _ h => h.elim) (Or.inl ⟨by rfl, ?ym7⟩) hS ?rm7
        case ym7 => (intro w' hS'; obtain ⟨s1, s2, s3⟩ := hS'; (try go_simp); try rfl)
        simp only [Act.put, List.getElem_toArray, List.getElem_cons_succ, List.getElem_cons_zero, List.setIfInBounds_toArray, List.set_cons_zero, List.set_cons_succ]
        refine wpHJ_pure (v := ?vm8) 8 hFa rfl (by kernel_rfl) (fun _ _ _ h => h.elim) (Or.inl ⟨by rfl, ?ym8⟩) (.inr hS) ?rm8
        case ym8 => (intro w' _; (try go_simp); try rfl)
        simp only [Act.put, List.getElem_toArray, List.getElem_cons_succ, List.getElem_cons_zero, List.setIfInBounds_toArray, List.set_cons_zero, List.set_cons_succ]
        refine wpHJ_pure (v := ?vm10) 10 hFa rfl (by kernel_rfl) (fun _ _ _ h => h.elim) (Or.inl ⟨by rfl, ?ym10⟩) (.inr hS) ?rm10
        case ym10 => (intro w' _; (try go_simp); try rfl)
        simp only [Act.put, List.getElem_toArray, List.getElem_cons_succ, List.getElem_cons_zero, List.setIfInBounds_toArray, List.set_cons_zero, List.set_cons_succ]
        refine wpHJ_pure (v := ?vm11) 11 hFa rfl (by kernel_rfl) (fun _ _ _ h => h.elim) (Or.inl ⟨by rfl, ?ym11⟩) (.inr hS) ?rm11
        case ym11 => (intro w' _; (try go_simp); try rfl)
        simp only [Act.put, List.getElem_toArray, List.getElem_cons_succ, List.getElem_cons_zero, List.setIfInBounds_toArray, List.set_cons_zero, List.set_cons_succ]
        refine wpHJ_pure (v := ?vm12) 12 hFa rfl (by kernel_rfl) (fun _ _ _ h => h.elim) (Or.inl ⟨by rfl, ?ym12⟩) (.inr hS) ?rm12
        case ym12 => (intro w' _; (try go_simp); try rfl)
        simp only [Act.put, List.getElem_toArray, List.getElem_cons_succ, List.getElem_cons_zero, List.setIfInBounds_toArray, List.set_cons_zero, List.set_cons_succ]
        refine wpHJ_take (v := ?vm13) 13 hFa rfl (by kernel_rfl) (fun _ _ _ h => h.elim) (Or.inl ⟨by rfl, ?ym13⟩) hS ?rm13
        case ym13 => (intro w' hS'; obtain ⟨s1, s2, s3⟩ := hS'; (try go_simp); try rfl)
        simp only [Act.put, List.getElem_toArray, List.getElem_cons_succ, List.getElem_cons_zero, List.setIfInBounds_toArray, List.set_cons_zero, List.set_cons_succ]
        refine wpHJ_pure (v := ?vm14) 14 hFa rfl (by kernel_rfl) (fun _ _ _ h => h.elim) (Or.inl ⟨by rfl, ?ym14⟩) (.inr hS) ?rm14
        case ym14 => (intro w' _; (try go_simp); try rfl)
        simp only [Act.put, List.getElem_toArray, List.getElem_cons_succ, List.getElem_cons_zero, List.setIfInBounds_toArray, List.set_cons_zero, List.set_cons_succ]
        refine wpHJ_pure (v := ?vm15) 15 hFa rfl (by kernel_rfl) (fun _ _ _ h => h.elim) (Or.inl ⟨by rfl, ?ym15⟩) (.inr hS) ?rm15
        case ym15 => (intro w' _; (try go_simp); try rfl)
        simp only [Act.put, List.getElem_toArray, List.getElem_cons_succ, List.getElem_cons_zero, List.setIfInBounds_toArray, List.set_cons_zero, List.set_cons_succ]
        refine wpHJ_take (v := ?vm16) 16 hFa rfl (by kernel_rfl) (fun _ _ _ h => h.elim) (Or.inl ⟨by rfl, ?ym16⟩) hS ?rm16
        case ym16 => (intro w' hS'; obtain ⟨s1, s2, s3⟩ := hS'; (try go_simp); try rfl)
        simp only [Act.put, List.getElem_toArray, List.getElem_cons_succ, List.getElem_cons_zero, List.setIfInBounds_toArray, List.set_cons_zero, List.set_cons_succ]
        refine wpHJ_pure (v := ?vm17) 17 hFa rfl (by kernel_rfl) (fun _ _ _ h => h.elim) (Or.inl ⟨by rfl, ?ym17⟩) (.inr hS) ?rm17
        case ym17 => (intro w' _; (try go_simp); try rfl)
        simp only [Act.put, List.getElem_toArray, List.getElem_cons_succ, List.getElem_cons_zero, List.setIfInBounds_toArray, List.set_cons_zero, List.set_cons_succ]
        clear hS
        have HBd := hid (show Below wo.heap.size wo wo.drew from ⟨rfl, rfl, rfl, Nat.le_refl _, fun _ _ => rfl⟩)
        generalize wo.drew = wd at *
        refine wpHJ_only 9 (by kernel_rfl) rfl ?_
        intro K hK
        go_simp
        (with_reducible refine (callsIn_wide.2 (HR1.out wd HBd.out)).mono ?_)
        rintro e w2 ⟨rfl, hb2⟩
        have HB2 := hid (HBd.out.trans (hb2.mono HBd.out.size))
        clear hb2
        refine hK _ _ (.inr (.inr (HS.out w2 HB2.out))) ?_
        clear hK K
        refine wpHJ_only 18 (by kernel_rfl) rfl ?_
        intro K hK
        go_simp
        (with_reducible refine (callsIn_wide.2 (HR2.out w2 HB2.out)).mono ?_)
        rintro e w4 ⟨rfl, hb4⟩
        have HB4 := hid (HB2.out.trans (hb4.mono HB2.out.size))
        clear hb4
        refine hK _ _ (.inr (.inr (HS.out w4 HB4.out))) ?_
        clear hK K
        refine wpHJ_only 19 (by kernel_rfl) rfl ?_
        intro K hK
        go_simp
        refine hK _ _ (.inr (.inr (HS.out _ (HB4.out.alloc HB4.out.size _)))) ?_
        clear hK K
        refine wpHJ_only 20 (by kernel_rfl) rfl ?_
        intro K hK
        refine wpIn_apd hFa (.tmp 29) (.tmp 48) 27 rfl (w.heap.size + 1) 9 (.string ⟨#[]⟩) 16 Tryd.underlying27 info_strL rfl (.slice po (1 + 2 * j) co2) (1 + 2 * j) _ rfl ((owns_keepL HO.out fun i hi => HB4.out.block i (HO.out.lt i hi).2).alloc _) (some ⟨w4.heap.size, 0, none⟩) 2 2 [sV x1, sV x2] rfl rfl (RowR.lit (R := fun _ => True) w4 [sV x1, sV x2] 9 trivial) (strs_oneC [x1, x2]) (by omega) (by unfold maxLen; omega) (by rw [World.size_alloc]; have := HB4.out.size; have := HWB.out.1.size; have := HWB.out.2; omega) ?_
        intro v5 w5 ho5 hg5 hv5
        simp only [Act.put, List.getElem_toArray, List.getElem_cons_succ, List.getElem_cons_zero, List.setIfInBounds_toArray, List.set_cons_zero, List.set_cons_succ]
        obtain ⟨p5, c5, rfl⟩ := owns_sliceL ho5
        have hb4s := HB4.out.size
        have hga := (World.grownBy_alloc w4 (.cells #[.string ⟨x1.toArray⟩, .string ⟨x2.toArray⟩] 9) (Value.slice po (1 + 2 * j) co2).ownBlock).trans hg5
        have hb5 : Below (w.heap.size + 1) W0 w5 := (HWB.out.1.trans (HB4.out.mono HWB.out.2)).grown hga (by have := HWB.out.2; omega) (fun i hi => (HO.out.lt i hi).1)
        have hS5 : (fun W' : World => W'.cell? ⟨w.heap.size, 3, none⟩ = some (.slice pA A.length cA) ∧ W'.cell? ⟨w.heap.size, 4, none⟩ = some (.slice pB B.length cB) ∧ W'.cell? ⟨b4, o4 + j, none⟩ = some (.string ⟨nmj.toArray⟩)) w5 := ⟨(hb5.cell (p := ⟨w.heap.size, 3, none⟩) (by show w.heap.size < w.heap.size + 1; omega)).trans HC3.out, (hb5.cell (p := ⟨w.heap.size, 4, none⟩) (by show w.heap.size < w.heap.size + 1; omega)).trans HC4.out, (hb5.cell (p := ⟨b4, o4 + j, none⟩) (Nat.lt_succ_of_lt HR4.out)).trans HCN.out⟩
        refine hK _ _ (.inr (.inr hS5)) ?_
        clear hK K
        refine wpHJ_only 21 (by kernel_rfl) rfl ?_
        intro K hK
        go_simp
        refine hK _ _ (.inl rfl) ?_
        clear hK K
        refine wpHJ_done (by kernel_rfl) ?_ _
        simp only [onlyN, Exit.then]
        clear hFa
        go_wp2
        have HO5 := hid (show w5.ownsRow (w.heap.size + 1) 9 1 (.slice p5 (1 + 2 * j + 2) c5) (1 + 2 * (j + 1)) ((FS :: chanR (⟨k, r, (n : Int), A, B, false, pol, ln, co, er⟩ : Vd) chans (j + 1)).map sV) from by rw [HSN2.out]; exact ho5)
        have HB5 := hid hb5
        have hs5 : w.heap.size + 1 ≤ w5.heap.size := by have := hga.size; have := HWB.out.2; omega
        go_roundw
        case rel => exact ⟨j + 1, by go_num, by omega, HO5.out, HB5.out, hs5⟩
        case measure => simp [intOf]; omega
      · obtain rfl : j = chans.length := by omega
        have t1 : decide ((chans.length : Int) < (chans.length : Int)) = false := decide_eq_false (by omega)
        go_wp2
        go_ret
        refine ⟨HB0.out.trans (HWB.out.1.mono (by omega)), po, co2, ?_, ?_⟩
        · rw [HV.out]; dsimp only; rw [List.length_cons, HCL.out]; rw [show 2 * chans.length + 1 = 1 + 2 * chans.length by omega]; rfl
        · rw [HV.out]
          dsimp only
          rw [List.length_cons, HCL.out, show 2 * chans.length + 1 = 1 + 2 * chans.length by omega]
          exact Sl.of_owns HO.out (by omega) fun i hi => (HO.out.lt i hi).2
  · have HJ2 := hid (show Calls Tryd.prog 43 #[.slice (some ⟨W0.heap.size, 0, none⟩) 4 4] (W0.alloc (.cells #[.string ⟨#[76, 69, 65, 75]⟩, .string ⟨#[97, 116]⟩, .string ⟨nm.toArray⟩, .string ⟨#[105, 109, 112, 108, 105, 99, 105, 116]⟩] 9)) (fun e w' => e = .returned (.string ⟨FS.toArray⟩) ∧ Below (W0.alloc (.cells #[.string ⟨#[76, 69, 65, 75]⟩, .string ⟨#[97, 116]⟩, .string ⟨nm.toArray⟩, .string ⟨#[105, 109, 112, 108, 105, 99, 105, 116]⟩] 9)).heap.size (W0.alloc (.cells #[.string ⟨#[76, 69, 65, 75]⟩, .string ⟨#[97, 116]⟩, .string ⟨nm.toArray⟩, .string ⟨#[105, 109, 112, 108, 105, 99, 105, 116]⟩] 9)) w') from HJF.out W0)
    clear HJF
    go_enter Tryd.func42, Tryd.ntmps42
    go_upto_region 4 with (first | (rw [HWW.out]))
    go_upto_region 5 with (go_at_call 43; (with_reducible refine HJ2.out.mono ?_); rintro e wj ⟨rfl, hbj⟩; have HBJ := hid hbj; clear hbj)
    clear c2 c5 hcell zn
    have hbj : Below (w.heap.size + 1) W0 wj ∧ w.heap.size + 1 ≤ wj.heap.size := by
      have h1 : Below W0.heap.size W0 wj := ((Below.refl _ _).alloc (Nat.le_refl _) _).trans (HBJ.out.mono (by rw [World.size_alloc]; omega))
      rw [HSZ0.out] at h1
      exact ⟨h1, by have := h1.size; have := HSZ0.out; omega⟩
    have ho0 : (wj.alloc (.cells #[.string ⟨FS.toArray⟩] 9)).ownsRow (w.heap.size + 1) 9 1 (.slice (some ⟨wj.heap.size, 0, none⟩) 1 1) 1 [sV FS] := World.ownsRow_lit (base := w.heap.size + 1) (e := 9) (size := 1) wj #[.string ⟨FS.toArray⟩] 1 hbj.2 (by unfold maxLen; omega) rfl
    have hw1 : Below (w.heap.size + 1) W0 (wj.alloc (.cells #[.string ⟨FS.toArray⟩] 9)) ∧ w.heap.size + 1 ≤ (wj.alloc (.cells #[.string ⟨FS.toArray⟩] 9)).heap.size := ⟨hbj.1.alloc hbj.2 _, by rw [World.size_alloc]; omega⟩
    have HO0 := hid ho0; have HW1 := hid hw1
    clear ho0 hw1 hbj HBJ
    generalize wj.alloc _ = W1 at *
    generalize wj.heap.size = bj at *
    have hch0 := chanR_len (⟨k, r, (n : Int), A, B, true, pol, ln, co, er⟩ : Vd) chans
    have HCL := hid hch0
    clear hch0
    go_wp2_with fail
    go_loopw [8, 9] (fun ov xv W => ∃ j : Nat, xv = .int .i64 (j : Int) ∧ j ≤ chans.length ∧ W.ownsRow (w.heap.size + 1) 9 1 ov (1 + 2 * j) ((FS :: chanR (⟨k, r, (n : Int), A, B, true, pol, ln, co, er⟩ : Vd) chans j).map sV) ∧ Below (w.heap.size + 1) W0 W ∧ w.heap.size + 1 ≤ W.heap.size) (fun _ xv _ => chans.length - (intOf xv).toNat)
    case atStart => exact ⟨0, rfl, Nat.zero_le _, HO0.out, HW1.out.1, HW1.out.2⟩
    case round =>
      obtain ⟨j, rfl, hj, ho, hwb⟩ := hrel
      obtain ⟨wo, rfl⟩ : ∃ wo : World, wo = wr := ⟨_, rfl⟩
      obtain ⟨po, co2, rfl⟩ := owns_sliceL ho
      have HO := hid ho; have HWB := hid hwb
      clear ho hwb
      by_cases hjl : j < chans.length
      · have t1 : decide ((j : Int) < (chans.length : Int)) = true := decide_eq_true (by omega)
        obtain ⟨b4, o4, rfl, hR4, hcc4⟩ := HRC.out.atS j hjl
        have hkp : ∀ W, Below wo.heap.size wo W → ∀ i, i < w.heap.size → W.heap[i]? = w.heap[i]? := fun W hW i hi => (hW.block i (by have := HWB.out.2; omega)).trans ((HWB.out.1.block i (by omega)).trans (HB0.out.block i hi))
        have hnc : wo.cell? ⟨b4, o4 + j, none⟩ = some (.string ⟨(chans[j]).toArray⟩) := (World.cell?_of_block (a := ⟨b4, o4 + j, none⟩) (hkp wo (Below.refl _ _) b4 (hR _ hR4))).trans (hcc4 j hjl)
        have hn0c : W0.cell? ⟨b4, o4 + j, none⟩ = some (.string ⟨(chans[j]).toArray⟩) := (HB0.out.cell (p := ⟨b4, o4 + j, none⟩) (hR _ hR4)).trans (hcc4 j hjl)
        have hcn := HCS.out _ (List.getElem_mem hjl)
        have HSN := hid (chanR_snoc (⟨k, r, (n : Int), A, B, true, pol, ln, co, er⟩ : Vd) chans j hjl)
        obtain ⟨x1, hx1⟩ : ∃ x, rowR wFirst chans[j] (atL A j) = x := ⟨_, rfl⟩
        obtain ⟨x2, hx2⟩ : ∃ x, rowR wSecond chans[j] (atL B j) = x := ⟨_, rfl⟩
        have HR1 := hid (fun W (hW : Below wo.heap.size wo W) => show Calls Tryd.prog 52 #[.string ⟨#[102, 105, 114, 115, 116]⟩, .string ⟨(chans[j]).toArray⟩, .slice pA A.length cA, .int .i64 (j : Int)] W fun e w' => e = .returned (.string ⟨x1.toArray⟩) ∧ Below W.heap.size W w' from by
          rw [← hx1]; exact rinputs_any wFirst chans[j] A _ j (fun i => i < w.heap.size) W (HNA.out.keep fun i hi => ⟨hR i hi, hkp W hW i (hR i hi)⟩) (fun i hi => by have := hW.size; have := HWB.out.2; omega) (by omega) HAn.out HAl.out (by decide) hcn)
        have HR2 := hid (fun W (hW : Below wo.heap.size wo W) => show Calls Tryd.prog 52 #[.string ⟨#[115, 101, 99, 111, 110, 100]⟩, .string ⟨(chans[j]).toArray⟩, .slice pB B.length cB, .int .i64 (j : Int)] W fun e w' => e = .returned (.string ⟨x2.toArray⟩) ∧ Below W.heap.size W w' from by
          rw [← hx2]; exact rinputs_any wSecond chans[j] B _ j (fun i => i < w.heap.size) W (HNB.out.keep fun i hi => ⟨hR i hi, hkp W hW i (hR i hi)⟩) (fun i hi => by have := hW.size; have := HWB.out.2; omega) (by omega) HBn.out HBl.out (by decide) hcn)
        have HSN2 := hid (show (FS :: chanR (⟨k, r, (n : Int), A, B, true, pol, ln, co, er⟩ : Vd) chans (j + 1)).map sV = (FS :: chanR (⟨k, r, (n : Int), A, B, true, pol, ln, co, er⟩ : Vd) chans j).map sV ++ [sV x1, sV x2] from by rw [HSN.out, ← hx1, ← hx2]; simp)
        have c3 := (HWB.out.1.cell (p := ⟨w.heap.size, 3, none⟩) (by show w.heap.size < w.heap.size + 1; omega)).trans HC3.out
        have c4 := (HWB.out.1.cell (p := ⟨w.heap.size, 4, none⟩) (by show w.heap.size < w.heap.size + 1; omega)).trans HC4.out
        have hbw : w.heap.size < wo.heap.size := by have := HWB.out.2; omega
        obtain ⟨nmj, hnmj⟩ : ∃ s, chans[j] = s := ⟨_, rfl⟩
        rw [hnmj] at hnc hn0c HR1 HR2
        have HCN := hid hn0c
        have HR4 := hid (hR _ hR4)
        have HS := hid (show ∀ W', Below wo.heap.size wo W' → (fun W' : World => W'.cell? ⟨w.heap.size, 3, none⟩ = some (.slice pA A.length cA) ∧ W'.cell? ⟨w.heap.size, 4, none⟩ = some (.slice pB B.length cB) ∧ W'.cell? ⟨b4, o4 + j, none⟩ = some (.string ⟨nmj.toArray⟩)) W' from fun W' h => ⟨(h.cell (p := ⟨w.heap.size, 3, none⟩) hbw).trans c3, (h.cell (p := ⟨w.heap.size, 4, none⟩) hbw).trans c4, (h.cell (p := ⟨b4, o4 + j, none⟩) (by show b4 < _; have := HR4.out; omega)).trans hnc⟩)
        have hS : (fun W' : World => W'.cell? ⟨w.heap.size, 3, none⟩ = some (.slice pA A.length cA) ∧ W'.cell? ⟨w.heap.size, 4, none⟩ = some (.slice pB B.length cB) ∧ W'.cell? ⟨b4, o4 + j, none⟩ = some (.string ⟨nmj.toArray⟩)) wo.drew := ⟨c3, c4, hnc⟩
        clear hkp hcc4 HSN hx1 hx2 hn0c hR4 hcn hnmj
        go_upto_region 8 with fail
        have hFa : ∀ f, Fence.wide.fn f := fun _ => trivial
        refine (wpIn_wide (n := 9)).1 ?_
        refine wpIn_onlyN ?_
        refine wpIn_region_HJ (fun W' : World => W'.cell? ⟨w.heap.size, 3, none⟩ = some (.slice pA A.length cA) ∧ W'.cell? ⟨w.heap.size, 4, none⟩ = some (.slice pB B.length cB) ∧ W'.cell? ⟨b4, o4 + j, none⟩ = some (.string ⟨nmj.toArray⟩)) 21 (by kernel_rfl) ?_
        simp only [List.size_toArray, List.length_cons, List.length_nil, Nat.reduceAdd]
        refine wpHJ_pure (v := ?vl0) 0 hFa rfl (by kernel_rfl) (fun _ _ _ h => h.elim) (Or.inl ⟨by rfl, ?yl0⟩) (.inr hS) ?rl0
        case yl0 => (intro w' _; (try go_simp); try rfl)
        simp only [Act.put, List.getElem_toArray, List.getElem_cons_succ, List.getElem_cons_zero, List.setIfInBounds_toArray, List.set_cons_zero, List.set_cons_succ]
        refine wpHJ_pure (v := ?vl1) 1 hFa rfl (by kernel_rfl) (fun _ _ _ h => h.elim) (Or.inl ⟨by rfl, ?yl1⟩) (.inr hS) ?rl1
        case yl1 => (intro w' _; (try go_simp); try rfl)
        simp only [Act.put, List.getElem_toArray, List.getElem_cons_succ, List.getElem_cons_zero, List.setIfInBounds_toArray, List.set_cons_zero, List.set_cons_succ]
        refine wpHJ_pure (v := ?vl2) 2 hFa rfl (by kernel_rfl) (fun _ _ _ h => h.elim) (Or.inl ⟨by rfl, ?yl2⟩) (.inr hS) ?rl2
        case yl2 => (intro w' _; (try go_simp); try rfl)
        simp only [Act.put, List.getElem_toArray, List.getElem_cons_succ, List.getElem_cons_zero, List.setIfInBounds_toArray, List.set_cons_zero, List.set_cons_succ]
        refine wpHJ_pure (v := ?vl3) 3 hFa rfl (by kernel_rfl) (fun _ _ _ h => h.elim) (Or.inl ⟨by rfl, ?yl3⟩) (.inr hS) ?rl3
        case yl3 => (intro w' _; (try go_simp); try rfl)
        simp only [Act.put, List.getElem_toArray, List.getElem_cons_succ, List.getElem_cons_zero, List.setIfInBounds_toArray, List.set_cons_zero, List.set_cons_succ]
        refine wpHJ_take (v := ?vl4) 4 hFa rfl (by kernel_rfl) (fun _ _ _ h => h.elim) (Or.inl ⟨by rfl, ?yl4⟩) hS ?rl4
        case yl4 => (intro w' hS'; obtain ⟨s1, s2, s3⟩ := hS'; (try go_simp); try rfl)
        simp only [Act.put, List.getElem_toArray, List.getElem_cons_succ, List.getElem_cons_zero, List.setIfInBounds_toArray, List.set_cons_zero, List.set_cons_succ]
        refine wpHJ_pure (v := ?vl5) 5 hFa rfl (by kernel_rfl) (fun _ _ _ h => h.elim) (Or.inl ⟨by rfl, ?yl5⟩) (.inr hS) ?rl5
        case yl5 => (intro w' _; (try go_simp); try rfl)
        simp only [Act.put, List.getElem_toArray, List.getElem_cons_succ, List.getElem_cons_zero, List.setIfInBounds_toArray, List.set_cons_zero, List.set_cons_succ]
        refine wpHJ_pure (v := ?vl6) 6 hFa rfl (by kernel_rfl) (fun _ _ _ h => h.elim) (Or.inl ⟨by rfl, ?yl6⟩) (.inr hS) ?rl6
        case yl6 => (intro w' _; (try go_simp); try rfl)
        simp only [Act.put, List.getElem_toArray, List.getElem_cons_succ, List.getElem_cons_zero, List.setIfInBounds_toArray, List.set_cons_zero, List.set_cons_succ]
        refine wpHJ_take (v := ?vl7) 7 hFa rfl (by kernel_rfl) (fun _ _ _ h => h.elim) (Or.inl ⟨by rfl, ?yl7⟩) hS ?rl7
        case yl7 => (intro w' hS'; obtain ⟨s1, s2, s3⟩ := hS'; (try go_simp); try rfl)
        simp only [Act.put, List.getElem_toArray, List.getElem_cons_succ, List.getElem_cons_zero, List.setIfInBounds_toArray, List.set_cons_zero, List.set_cons_succ]
        refine wpHJ_pure (v := ?vl8) 8 hFa rfl (by kernel_rfl) (fun _ _ _ h => h.elim) (Or.inl ⟨by rfl, ?yl8⟩) (.inr hS) ?rl8
        case yl8 => (intro w' _; (try go_simp); try rfl)
        simp only [Act.put, List.getElem_toArray, List.getElem_cons_succ, List.getElem_cons_zero, List.setIfInBounds_toArray, List.set_cons_zero, List.set_cons_succ]
        refine wpHJ_pure (v := ?vl10) 10 hFa rfl (by kernel_rfl) (fun _ _ _ h => h.elim) (Or.inl ⟨by rfl, ?yl10⟩) (.inr hS) ?rl10
        case yl10 => (intro w' _; (try go_simp); try rfl)
        simp only [Act.put, List.getElem_toArray, List.getElem_cons_succ, List.getElem_cons_zero, List.setIfInBounds_toArray, List.set_cons_zero, List.set_cons_succ]
        refine wpHJ_pure (v := ?vl11) 11 hFa rfl (by kernel_rfl) (fun _ _ _ h => h.elim) (Or.inl ⟨by rfl, ?yl11⟩) (.inr hS) ?rl11
        case yl11 => (intro w' _; (try go_simp); try rfl)
        simp only [Act.put, List.getElem_toArray, List.getElem_cons_succ, List.getElem_cons_zero, List.setIfInBounds_toArray, List.set_cons_zero, List.set_cons_succ]
        refine wpHJ_pure (v := ?vl12) 12 hFa rfl (by kernel_rfl) (fun _ _ _ h => h.elim) (Or.inl ⟨by rfl, ?yl12⟩) (.inr hS) ?rl12
        case yl12 => (intro w' _; (try go_simp); try rfl)
        simp only [Act.put, List.getElem_toArray, List.getElem_cons_succ, List.getElem_cons_zero, List.setIfInBounds_toArray, List.set_cons_zero, List.set_cons_succ]
        refine wpHJ_take (v := ?vl13) 13 hFa rfl (by kernel_rfl) (fun _ _ _ h => h.elim) (Or.inl ⟨by rfl, ?yl13⟩) hS ?rl13
        case yl13 => (intro w' hS'; obtain ⟨s1, s2, s3⟩ := hS'; (try go_simp); try rfl)
        simp only [Act.put, List.getElem_toArray, List.getElem_cons_succ, List.getElem_cons_zero, List.setIfInBounds_toArray, List.set_cons_zero, List.set_cons_succ]
        refine wpHJ_pure (v := ?vl14) 14 hFa rfl (by kernel_rfl) (fun _ _ _ h => h.elim) (Or.inl ⟨by rfl, ?yl14⟩) (.inr hS) ?rl14
        case yl14 => (intro w' _; (try go_simp); try rfl)
        simp only [Act.put, List.getElem_toArray, List.getElem_cons_succ, List.getElem_cons_zero, List.setIfInBounds_toArray, List.set_cons_zero, List.set_cons_succ]
        refine wpHJ_pure (v := ?vl15) 15 hFa rfl (by kernel_rfl) (fun _ _ _ h => h.elim) (Or.inl ⟨by rfl, ?yl15⟩) (.inr hS) ?rl15
        case yl15 => (intro w' _; (try go_simp); try rfl)
        simp only [Act.put, List.getElem_toArray, List.getElem_cons_succ, List.getElem_cons_zero, List.setIfInBounds_toArray, List.set_cons_zero, List.set_cons_succ]
        refine wpHJ_take (v := ?vl16) 16 hFa rfl (by kernel_rfl) (fun _ _ _ h => h.elim) (Or.inl ⟨by rfl, ?yl16⟩) hS ?rl16
        case yl16 => (intro w' hS'; obtain ⟨s1, s2, s3⟩ := hS'; (try go_simp); try rfl)
        simp only [Act.put, List.getElem_toArray, List.getElem_cons_succ, List.getElem_cons_zero, List.setIfInBounds_toArray, List.set_cons_zero, List.set_cons_succ]
        refine wpHJ_pure (v := ?vl17) 17 hFa rfl (by kernel_rfl) (fun _ _ _ h => h.elim) (Or.inl ⟨by rfl, ?yl17⟩) (.inr hS) ?rl17
        case yl17 => (intro w' _; (try go_simp); try rfl)
        simp only [Act.put, List.getElem_toArray, List.getElem_cons_succ, List.getElem_cons_zero, List.setIfInBounds_toArray, List.set_cons_zero, List.set_cons_succ]
        clear hS
        have HBd := hid (show Below wo.heap.size wo wo.drew from ⟨rfl, rfl, rfl, Nat.le_refl _, fun _ _ => rfl⟩)
        generalize wo.drew = wd at *
        refine wpHJ_only 9 (by kernel_rfl) rfl ?_
        intro K hK
        go_simp
        (with_reducible refine (callsIn_wide.2 (HR1.out wd HBd.out)).mono ?_)
        rintro e w2 ⟨rfl, hb2⟩
        have HB2 := hid (HBd.out.trans (hb2.mono HBd.out.size))
        clear hb2
        refine hK _ _ (.inr (.inr (HS.out w2 HB2.out))) ?_
        clear hK K
        refine wpHJ_only 18 (by kernel_rfl) rfl ?_
        intro K hK
        go_simp
        (with_reducible refine (callsIn_wide.2 (HR2.out w2 HB2.out)).mono ?_)
        rintro e w4 ⟨rfl, hb4⟩
        have HB4 := hid (HB2.out.trans (hb4.mono HB2.out.size))
        clear hb4
        refine hK _ _ (.inr (.inr (HS.out w4 HB4.out))) ?_
        clear hK K
        refine wpHJ_only 19 (by kernel_rfl) rfl ?_
        intro K hK
        go_simp
        refine hK _ _ (.inr (.inr (HS.out _ (HB4.out.alloc HB4.out.size _)))) ?_
        clear hK K
        refine wpHJ_only 20 (by kernel_rfl) rfl ?_
        intro K hK
        refine wpIn_apd hFa (.tmp 29) (.tmp 48) 27 rfl (w.heap.size + 1) 9 (.string ⟨#[]⟩) 16 Tryd.underlying27 info_strL rfl (.slice po (1 + 2 * j) co2) (1 + 2 * j) _ rfl ((owns_keepL HO.out fun i hi => HB4.out.block i (HO.out.lt i hi).2).alloc _) (some ⟨w4.heap.size, 0, none⟩) 2 2 [sV x1, sV x2] rfl rfl (RowR.lit (R := fun _ => True) w4 [sV x1, sV x2] 9 trivial) (strs_oneC [x1, x2]) (by omega) (by unfold maxLen; omega) (by rw [World.size_alloc]; have := HB4.out.size; have := HWB.out.1.size; have := HWB.out.2; omega) ?_
        intro v5 w5 ho5 hg5 hv5
        simp only [Act.put, List.getElem_toArray, List.getElem_cons_succ, List.getElem_cons_zero, List.setIfInBounds_toArray, List.set_cons_zero, List.set_cons_succ]
        obtain ⟨p5, c5, rfl⟩ := owns_sliceL ho5
        have hb4s := HB4.out.size
        have hga := (World.grownBy_alloc w4 (.cells #[.string ⟨x1.toArray⟩, .string ⟨x2.toArray⟩] 9) (Value.slice po (1 + 2 * j) co2).ownBlock).trans hg5
        have hb5 : Below (w.heap.size + 1) W0 w5 := (HWB.out.1.trans (HB4.out.mono HWB.out.2)).grown hga (by have := HWB.out.2; omega) (fun i hi => (HO.out.lt i hi).1)
        have hS5 : (fun W' : World => W'.cell? ⟨w.heap.size, 3, none⟩ = some (.slice pA A.length cA) ∧ W'.cell? ⟨w.heap.size, 4, none⟩ = some (.slice pB B.length cB) ∧ W'.cell? ⟨b4, o4 + j, none⟩ = some (.string ⟨nmj.toArray⟩)) w5 := ⟨(hb5.cell (p := ⟨w.heap.size, 3, none⟩) (by show w.heap.size < w.heap.size + 1; omega)).trans HC3.out, (hb5.cell (p := ⟨w.heap.size, 4, none⟩) (by show w.heap.size < w.heap.size + 1; omega)).trans HC4.out, (hb5.cell (p := ⟨b4, o4 + j, none⟩) (Nat.lt_succ_of_lt HR4.out)).trans HCN.out⟩
        refine hK _ _ (.inr (.inr hS5)) ?_
        clear hK K
        refine wpHJ_only 21 (by kernel_rfl) rfl ?_
        intro K hK
        go_simp
        refine hK _ _ (.inl rfl) ?_
        clear hK K
        refine wpHJ_done (by kernel_rfl) ?_ _
        simp only [onlyN, Exit.then]
        clear hFa
        go_wp2
        have HO5 := hid (show w5.ownsRow (w.heap.size + 1) 9 1 (.slice p5 (1 + 2 * j + 2) c5) (1 + 2 * (j + 1)) ((FS :: chanR (⟨k, r, (n : Int), A, B, true, pol, ln, co, er⟩ : Vd) chans (j + 1)).map sV) from by rw [HSN2.out]; exact ho5)
        have HB5 := hid hb5
        have hs5 : w.heap.size + 1 ≤ w5.heap.size := by have := hga.size; have := HWB.out.2; omega
        go_roundw
        case rel => exact ⟨j + 1, by go_num, by omega, HO5.out, HB5.out, hs5⟩
        case measure => simp [intOf]; omega
      · obtain rfl : j = chans.length := by omega
        have t1 : decide ((chans.length : Int) < (chans.length : Int)) = false := decide_eq_false (by omega)
        go_wp2
        go_ret
        refine ⟨HB0.out.trans (HWB.out.1.mono (by omega)), po, co2, ?_, ?_⟩
        · rw [HV.out]; dsimp only; rw [List.length_cons, HCL.out]; rw [show 2 * chans.length + 1 = 1 + 2 * chans.length by omega]; rfl
        · rw [HV.out]
          dsimp only
          rw [List.length_cons, HCL.out, show 2 * chans.length + 1 = 1 + 2 * chans.length by omega]
          exact Sl.of_owns HO.out (by omega) fun i hi => (HO.out.lt i hi).2

end Go.Proofs.YtehjfmbnebeioaaDoor
