/-
  Fit: a formula made of lists of numbers.
-/
import Derived.Test.YtfllhhgnflpagaaDoorDmL1
namespace Go.Proofs.YtfllhhgnflpagaaDoor
set_option linter.unusedSimpArgs false
set_option linter.unusedVariables false
open Go.RowKit Go.Shelf
attribute [local go_sem] Oper.semAt_some

/-- Small numbers in memory. -/
def I8s (R : Nat → Prop) (w : World) (v : Value) (xs : List Int) : Prop := Sl R w v (xs.map (Value.int .i8))
def L8 (R : Nat → Prop) (w : World) (v : Value) (ls : List (List Int)) : Prop :=
  ∃ vs, Sl R w v vs ∧ vs.length = ls.length ∧ ∀ i (h : i < ls.length) (h' : i < vs.length), I8s R w vs[i] ls[i]
theorem I8s.op {R : Nat → Prop} {w : World} {v : Value} {xs : List Int} (h : I8s R w v xs) :
    ∃ p c, v = .slice p xs.length c ∧ xs.length ≤ c ∧ c ≤ maxLen ∧ xs.length ≤ 140737488355328 ∧ RowR R w p (xs.map (Value.int .i8)) := by
  obtain ⟨p, c, e, h1, h2, h3, hr⟩ := h
  rw [List.length_map] at e h1 h3
  exact ⟨p, c, e, h1, h2, h3, hr⟩
theorem I8s.keep {R R' : Nat → Prop} {w w' : World} {v : Value} {xs : List Int} (h : I8s R w v xs) (hf : ∀ k, R k → R' k ∧ w'.heap[k]? = w.heap[k]?) : I8s R' w' v xs := Sl.keep h hf
theorem L8.keep {R R' : Nat → Prop} {w w' : World} {v : Value} {xs : List (List Int)} (h : L8 R w v xs) (hf : ∀ k, R k → R' k ∧ w'.heap[k]? = w.heap[k]?) : L8 R' w' v xs :=
  let ⟨vs, h1, h2, h3⟩ := h; ⟨vs, Sl.keep h1 hf, h2, fun i hi hi' => (h3 i hi hi').keep hf⟩
theorem L8.bel {w W : World} {v : Value} {ls : List (List Int)} (h : L8 (· < w.heap.size) w v ls) (hb : Below w.heap.size w W) : L8 (· < W.heap.size) W v ls := h.keep fun k hk => ⟨Nat.lt_of_lt_of_le hk hb.size, hb.block k hk⟩
theorem RowR.at1 {R : Nat → Prop} {w : World} {p : Option Addr} {xs : List Int} (h : RowR R w p (xs.map (Value.int .i8))) (k : Nat) (hk : k < xs.length) :
    ∃ b off, p = some ⟨b, off, none⟩ ∧ R b ∧ (∀ j (h : j < xs.length), w.cell? ⟨b, off + j, none⟩ = some (.int .i8 xs[j])) := by
  obtain ⟨b, off, e, hR, hc⟩ := h.at k (by simpa using hk)
  exact ⟨b, off, e, hR, fun j hj => by rw [hc j (by simpa using hj)]; simp⟩

/-! ### plain -/
def fitC (m : Int) (x : List Int) : List Int := (x.map fun a => a.tmod (m + 1)).filter (· != 0)
def fitOk (l : List (List Int)) : Bool := decide (l.length ≤ 30) && l.all fun x => decide (x.length ≤ 20)
def fitL (m : Int) (l : List (List Int)) : List (List Int) := l.map (fitC m)
def fitN (n : Int) : Int := 1 + n % 12
theorem fitC_snoc (m : Int) (x : List Int) (i : Nat) (h : i < x.length) : fitC m (x.take (i + 1)) = if x[i].tmod (m + 1) = 0 then fitC m (x.take i) else fitC m (x.take i) ++ [x[i].tmod (m + 1)] := by
  unfold fitC
  rw [List.take_succ_eq_append_getElem h, List.map_append, List.filter_append]
  split
  · rename_i h0; simp [h0]
  · rename_i h0; simp [h0]
theorem fitC_len (m : Int) (x : List Int) : (fitC m x).length ≤ x.length := by
  unfold fitC
  exact Nat.le_trans (List.length_filter_le _ _) (by simp)
theorem fitOk_long {l : List (List Int)} (h : 30 < l.length) : fitOk l = false := by unfold fitOk; rw [Bool.and_eq_false_iff]; left; simp; omega
theorem fitOk_row {l : List (List Int)} (k : Nat) (hk : k < l.length) (h : 20 < l[k].length) : fitOk l = false := by
  unfold fitOk
  rw [Bool.and_eq_false_iff]
  right
  rw [List.all_eq_false]
  exact ⟨l[k], List.getElem_mem hk, by simp; omega⟩
theorem fitOk_ok {l : List (List Int)} (h : l.length ≤ 30) (h2 : ∀ j (hj : j < l.length), l[j].length ≤ 20) : fitOk l = true := by
  unfold fitOk
  rw [Bool.and_eq_true, List.all_eq_true]
  refine ⟨by simpa using h, fun x hx => ?_⟩
  obtain ⟨j, hj, rfl⟩ := List.getElem_of_mem hx
  simpa using h2 j hj
/-- Where the making of the formula stands: a reader's state whose clauses still to come are those that may. -/
def fitS (m : Int) (l : List (List Int)) (i : Nat) (c : List Int) : PS := ⟨30 - i, m, fitL m (l.take i), c⟩
theorem fitS_inv {m : Int} {l : List (List Int)} {i : Nat} {c : List Int} (hm : 1 ≤ m ∧ m ≤ 12) (hi : i ≤ 30) (hl : l.length ≤ 30) (hc : c.length ≤ 20) : PInv (fitS m l i c) := by
  refine ⟨by show c.length ≤ _; omega, ?_, fun h => ?_, by show 0 ≤ m; omega, by show m ≤ _; omega⟩
  · show ((fitL m (l.take i)).length : Int) + (if (30 - (i : Int)) < 0 then 0 else 30 - (i : Int)) ≤ _
    have : (fitL m (l.take i)).length ≤ 30 := by unfold fitL; rw [List.length_map, List.length_take]; omega
    split <;> omega
  · have : (30 - (i : Int)) < 0 := h
    omega
def FitPost (n : Int) (l : List (List Int)) (w : World) (e : Ending) (w' : World) : Prop :=
  ∃ cv, e = .returned (.tuple #[.agg #[.int .i64 (if fitOk l then fitN n else 0), cv], .bool (fitOk l)]) ∧ LL (fun k => w.heap.size ≤ k ∧ k < w'.heap.size) w' cv (if fitOk l then fitL (fitN n) l else []) ∧ Below w.heap.size w w'
theorem fit_no {n : Int} {l : List (List Int)} {w W : World} (h : fitOk l = false) (hb : Below w.heap.size w W) {e : Ending} (he : e = .returned (.tuple #[.agg #[.int .i64 0, .slice none 0 0], .bool false])) : FitPost n l w e W :=
  ⟨.slice none 0 0, by rw [h]; exact he, by rw [h]; exact ⟨[], Sl.nil, rfl, fun i h => absurd h (by simp)⟩, hb⟩
theorem RI.drewn {w wl W : World} {st : PS} {cv cc : Value} (h : RI w wl st W cv cc) : RI w wl st W.drew cv cc := ⟨h.b0, h.b1, h.oth, h.sz, h.os, h.tape, h.output, h.inv, h.acc.keep (Nat.le_refl _) (fun _ _ _ _ => rfl) (fun k hk => .inl hk)⟩
theorem tmod_bd (a m : Int) (hm : 1 ≤ m ∧ m ≤ 12) : -12 ≤ a.tmod (m + 1) ∧ a.tmod (m + 1) ≤ 12 := by
  have h1 := Int.tmod_lt_of_pos a (show 0 < m + 1 by omega)
  have h2 := Int.lt_tmod_of_pos a (show 0 < m + 1 by omega)
  omega
theorem fit_len {W : World} {B : Nat} {t : TypeId} {v : Value} {c : List Int} {C : Nat} {ys : List Value} (h : c.length = C) (ho : W.ownsRow B t 1 v (C + 1) ys) : W.ownsRow B t 1 v (c.length + 1) ys := by rw [h]; exact ho
theorem fit_len2 {W : World} {B : Nat} {t : TypeId} {v : Value} {c : List (List Int)} {C : Nat} {ys : List Value} (h : c.length = C) (ho : W.ownsRow B t 1 v C ys) : W.ownsRow B t 1 v c.length ys := by rw [h]; exact ho
theorem fit_len3 {W : World} {B : Nat} {t : TypeId} {v : Value} {c : List (List Int)} {C : Nat} {ys : List Value} (h : c.length = C) (ho : W.ownsRow B t 1 v (C + 1) ys) : W.ownsRow B t 1 v (c.length + 1) ys := by rw [h]; exact ho
theorem fitS_next {m : Int} {l : List (List Int)} {i : Nat} {x : List Int} (h : l.take (i + 1) = l.take i ++ [x]) : fitS m l (i + 1) [] = { fitS m l i (fitC m x) with cls := (fitS m l i (fitC m x)).cls ++ [(fitS m l i (fitC m x)).c], c := [], left := (fitS m l i (fitC m x)).left - 1 } := by
  unfold fitS fitL
  rw [h, List.map_append]
  simp only [List.map_cons, List.map_nil]
  congr 1
  omega
set_option maxRecDepth 100000 in
set_option maxHeartbeats 4000000 in
theorem fit_any (n : Int) (l : List (List Int)) (v : Value) (w : World) (hn : 0 ≤ n ∧ n ≤ 255) (hv : L8 (· < w.heap.size) w v l) (hb : ∀ x ∈ l, ∀ a ∈ x, -128 ≤ a ∧ a ≤ 127) :
    Calls Tryd.prog 18 #[.int .u8 n, v] w (FitPost n l w) := by
  obtain ⟨vs, ⟨pl, kl, rfl, h1, h2, h3, hr⟩, hvl, hx⟩ := hv
  obtain ⟨NL, hNL⟩ : ∃ k, vs.length = k := ⟨_, rfl⟩
  rw [hNL] at h1 h3 ⊢
  have hLl : NL = l.length := by omega
  obtain ⟨m, hm⟩ : ∃ m, fitN n = m := ⟨_, rfl⟩
  have hm1 : 1 + n % 12 = m := hm
  have hmb : 1 ≤ m ∧ m ≤ 12 := by
    omega
  obtain ⟨hmb1, hmb2⟩ := hmb
  obtain ⟨w2, hw2⟩ : ∃ x, (w.alloc (.cells #[.int .i64 0, .slice none 0 0] 24)).alloc (.cells #[.int .i64 m, .slice none 0 0] 24) = x := ⟨_, rfl⟩
  have hb2 : Below w.heap.size w w2 := by rw [← hw2]; exact ((Below.refl _ _).alloc (Nat.le_refl _) _).alloc (by simp) _
  have hs2 : w2.heap.size = w.heap.size + 2 := by rw [← hw2]; simp
  have h20 : w2.heap[w.heap.size]? = some (.cells #[.int .i64 0, .slice none 0 0] 24 (0, 0)) := by rw [← hw2, heap_al, if_neg (by simp), heap_al, if_pos rfl]
  have h21 : w2.heap[w.heap.size + 1]? = some (.cells #[.int .i64 m, .slice none 0 0] 24 (0, 0)) := by rw [← hw2, heap_al, if_pos (by simp)]
  obtain ⟨c00, c01, f00, f01⟩ := cell_lit2 h20
  have HB2 := hid hb2; have HS2 := hid hs2; have H20 := hid h20; have H21 := hid h21; have HW2 := hid hw2; have HM := hid hm; have HLL := hid hLl; have HNL := hid hNL; have HBB := hid hb; have HX := hid hx; have HR := hid hr; have HVL := hid hvl
  clear hb2 hs2 h20 h21 hw2 hm hLl hNL hb hx hr hvl h1 h2
  by_cases hlong : 30 < NL
  · have hd : decide (30 < (NL : Int)) = true := by simp; omega
    have HNO := hid (fitOk_long (l := l) (by have := HLL.out; omega))
    go_enter Tryd.func18, Tryd.ntmps18
    go_wp2_with fail
    rw [HW2.out]
    refine bodyPost_ret (v := .tuple #[.agg #[.int .i64 0, .slice none 0 0], .bool false]) (by simp [results, Tryd.results18, go_sem, c00, c01]) rfl ?_
    exact fit_no HNO.out HB2.out rfl
  · have hd : decide (30 < (NL : Int)) = false := by simp; omega
    have hNL30 : NL ≤ 30 := by omega
    have hwl : w.heap.size + 2 ≤ w2.heap.size := by rw [HS2.out]; omega
    have HWL := hid hwl
    have hri : RI w w2 (fitS m l 0 []) w2 (.slice none 0 0) (.slice none 0 0) := ⟨H20.out, H21.out, fun _ _ _ => rfl, Nat.le_refl _, rfl, rfl, rfl, fitS_inv ⟨hmb1, hmb2⟩ (by omega) (by have := HLL.out; omega) (by simp), CAcc.nil _ _ _⟩
    have HRI := hid hri
    clear hri hlong
    go_enter Tryd.func18, Tryd.ntmps18
    go_wp2_with fail
    rw [HW2.out]
    clear c00 c01 f00 f01
    go_loopw [7] (fun iv wr => ∃ (i : Nat) (cv : Value), i ≤ NL ∧ iv = .int .i64 (i : Int) ∧ RI w w2 (fitS m l i []) wr cv (.slice none 0 0) ∧ ∀ j (hj : j < l.length), j < i → l[j].length ≤ 20) (fun iv _ => NL - (intOf iv).toNat)
    case atStart => exact ⟨0, _, Nat.zero_le _, rfl, HRI.out, fun j hj h => by omega⟩
    case round =>
      obtain ⟨i, cv, hi, rfl, hri, hrows⟩ := hrel
      obtain ⟨wo, rfl⟩ : ∃ wo : World, wo = wr := ⟨_, rfl⟩
      have HRI2 := hid hri; have HROWS := hid hrows
      obtain ⟨⟨c10, c11, f10, f11⟩, ⟨c00, c01, f00, f01⟩⟩ := hri.cells
      replace c10 : wo.cell? ⟨w.heap.size + 1, 0, none⟩ = some (.int .i64 m) := c10
      clear hri hrows HRI
      by_cases hlt : i < NL
      · have g1 : decide ((i : Int) < (NL : Int)) = true := by simp; omega
        have hil : i < l.length := by have := HLL.out; omega
        have hiv : i < vs.length := by have := HNL.out; omega
        obtain ⟨bk, off, rfl, hR1, hcell⟩ := HR.out.at i hiv
        obtain ⟨x, hx⟩ : ∃ x, l[i] = x := ⟨_, rfl⟩
        obtain ⟨px, kx, hvx, hx1, hx2, hx3, hrx⟩ := (HX.out i hil hiv).op
        obtain ⟨NX, hNX⟩ : ∃ k, x.length = k := ⟨_, rfl⟩
        have hcw := hcell i hiv
        rw [hvx, hx, hNX] at hcw
        have hrd : ∀ (W : World) (st : PS) (cv cc : Value), RI w w2 st W cv cc → ∀ k j v, k < w.heap.size → w.cell? ⟨k, j, none⟩ = some v → W.cell? ⟨k, j, none⟩ = some v := fun W st cv cc h k j v hk hc => (World.cell?_of_block (a := ⟨k, j, none⟩) ((h.oth k (by omega) (by omega)).trans (HB2.out.block k hk))).trans hc
        have hck := hrd _ _ _ _ HRI2.out _ _ _ hR1 hcw
        have hbx := HBB.out _ (List.getElem_mem hil)
        rw [hx, hNX] at hx3
        rw [hx] at hrx hbx
        have htk : l.take (i + 1) = l.take i ++ [x] := by rw [List.take_succ_eq_append_getElem hil, hx]
        have HRD := hid hrd; have HCK := hid (And.intro hR1 hcw); have HRX := hid hrx; have HBX := hid hbx; have HTK := hid htk; have HNX := hid hNX
        have hrow1 : ∀ j (hj : j < l.length), j < i + 1 → NX ≤ 20 → l[j].length ≤ 20 := fun j hj h1 h2 => by
          by_cases h3 : j < i
          · exact HROWS.out j hj h3
          · obtain rfl : j = i := by omega
            rw [hx, hNX]; exact h2
        have HROW1 := hid hrow1
        have HBAD := hid (show 20 < NX → fitOk l = false from fun h => fitOk_row i hil (by rw [hx, hNX]; exact h))
        clear hcell hR1 hvx hx1 hx2 hrx hbx htk hcw hrd hx hNX hil hiv hrow1
        by_cases h20 : 20 < NX
        · have q1 : decide (20 < (NX : Int)) = true := by simp; omega
          have HNO := hid (HBAD.out h20)
          go_wp2_with fail
          obtain ⟨d0, d1⟩ := box_two HRI2.out.b0 (.int .i64 0) (.slice none 0 0)
          refine bodyPost_ret (v := .tuple #[.agg #[.int .i64 0, .slice none 0 0], .bool false]) (by simp [results, Tryd.results18, go_sem, d0, d1]) rfl ?_
          exact fit_no HNO.out (((HRI2.out.old HB2.out).setCell (p := ⟨w.heap.size, 0, none⟩) (Nat.le_refl _) _).setCell (p := ⟨w.heap.size, 1, none⟩) (Nat.le_refl _) _) rfl
        have q1 : decide (20 < (NX : Int)) = false := by simp; omega
        have hNXb : NX ≤ 20 := by omega
        go_wp2_with fail
        clear c10 c11 f10 f11 c00 c01 f00 f01 hck
        go_loopw [8, 9] (fun cc jv wr' => ∃ (j : Nat), j ≤ NX ∧ jv = .int .i64 (j : Int) ∧ RI w w2 (fitS m l i (fitC m (x.take j))) wr' cv cc) (fun _ jv _ => NX - (intOf jv).toNat)
        case atStart => exact ⟨0, Nat.zero_le _, rfl, HRI2.out⟩
        case round =>
          obtain ⟨j, hj, rfl, hri3⟩ := hrel
          obtain ⟨wi, rfl⟩ : ∃ wi : World, wi = wr := ⟨_, rfl⟩
          obtain ⟨pc, kc, rfl⟩ := own_sliceG hri3.acc.row
          obtain ⟨C, hC⟩ : ∃ C, (fitC m (x.take j)).length = C := ⟨_, rfl⟩
          have hC2 : (fitS m l i (fitC m (x.take j))).c.length = C := hC
          rw [hC2] at hri3 ⊢
          have hCb : C ≤ 20 := by rw [← hC]; exact Nat.le_trans (fitC_len _ _) (by rw [List.length_take]; omega)
          obtain ⟨⟨c10, c11, f10, f11⟩, ⟨c00, c01, f00, f01⟩⟩ := hri3.cells
          replace c10 : wi.cell? ⟨w.heap.size + 1, 0, none⟩ = some (.int .i64 m) := c10
          have hck := HRD.out _ _ _ _ hri3 _ _ _ HCK.out.1 HCK.out.2
          have hszi := hri3.sz
          have HRI3 := hid hri3; have HC := hid hC
          clear hri3 hC hC2
          by_cases hjl : j < NX
          · have g2 : decide ((j : Int) < (NX : Int)) = true := by simp; omega
            have hjx : j < x.length := by rw [HNX.out]; exact hjl
            obtain ⟨bx, ox, rfl, hRx, hcx⟩ := HRX.out.at1 j hjx
            have hce := HRD.out _ _ _ _ HRI3.out _ _ _ hRx (hcx j hjx)
            have hab := HBX.out _ (List.getElem_mem hjx)
            have hsn := fitC_snoc m x j hjx
            obtain ⟨a, ha⟩ : ∃ a, x[j] = a := ⟨_, rfl⟩
            rw [ha] at hce hab hsn
            obtain ⟨r, hr⟩ : ∃ r, a.tmod (m + 1) = r := ⟨_, rfl⟩
            have hrb := tmod_bd a m ⟨hmb1, hmb2⟩
            rw [hr] at hsn hrb
            obtain ⟨ha1, ha2⟩ := hab
            obtain ⟨hr1, hr2⟩ := hrb
            have HSN := hid hsn
            clear hsn hcx hRx hjx ha
            have hS : (fun W' : World => W'.cell? ⟨bk, off + i, none⟩ = some (.slice (some ⟨bx, ox, none⟩) NX kx) ∧ W'.cell? ⟨bx, ox + j, none⟩ = some (.int .i8 a) ∧ W'.cell? ⟨w.heap.size + 1, 0, none⟩ = some (.int .i64 m)) wi.drew := ⟨hck, hce, c10⟩
            go_wp2_with fail
            have hw1 : IntKind.i64.wrap (m + 1) = m + 1 := IntWalk.i64_in _ (by omega)
            have hw2' : IntKind.i64.wrap a = a := IntWalk.i64_in _ (by omega)
            have hm0 : ¬ m + 1 = 0 := by omega
            have hFa : ∀ f, Fence.wide.fn f := fun _ => trivial
            refine (wpIn_wide (n := 9)).1 ?_
            refine wpIn_onlyN ?_
            refine wpIn_region_HJ (fun W' : World => W'.cell? ⟨bk, off + i, none⟩ = some (.slice (some ⟨bx, ox, none⟩) NX kx) ∧ W'.cell? ⟨bx, ox + j, none⟩ = some (.int .i8 a) ∧ W'.cell? ⟨w.heap.size + 1, 0, none⟩ = some (.int .i64 m)) 13 (by kernel_rfl) ?_
            simp only [List.size_toArray, List.length_cons, List.length_nil, Nat.reduceAdd]
            refine wpHJ_take (v := ?vf0) 0 hFa rfl (by kernel_rfl) (fun _ _ _ h => h.elim) (Or.inl ⟨by rfl, ?yf0⟩) hS ?rf0
            case yf0 => (intro w' hS'; obtain ⟨hp0, hp1, hp2⟩ := hS'; go_simp; try rfl)
            simp only [Act.put, List.getElem_toArray, List.getElem_cons_succ, List.getElem_cons_zero, List.setIfInBounds_toArray, List.set_cons_zero, List.set_cons_succ]
            refine wpHJ_take (v := ?vf1) 1 hFa rfl (by kernel_rfl) (fun _ _ _ h => h.elim) (Or.inl ⟨by rfl, ?yf1⟩) hS ?rf1
            case yf1 => (intro w' hS'; obtain ⟨hp0, hp1, hp2⟩ := hS'; go_simp; try rfl)
            simp only [Act.put, List.getElem_toArray, List.getElem_cons_succ, List.getElem_cons_zero, List.setIfInBounds_toArray, List.set_cons_zero, List.set_cons_succ]
            refine wpHJ_take (v := ?vf2) 2 hFa rfl (by kernel_rfl) (fun _ _ _ h => h.elim) (Or.inl ⟨by rfl, ?yf2⟩) hS ?rf2
            case yf2 => (intro w' hS'; obtain ⟨hp0, hp1, hp2⟩ := hS'; go_simp; try rfl)
            simp only [Act.put, List.getElem_toArray, List.getElem_cons_succ, List.getElem_cons_zero, List.setIfInBounds_toArray, List.set_cons_zero, List.set_cons_succ]
            refine wpHJ_take (v := ?vf3) 3 hFa rfl (by kernel_rfl) (fun _ _ _ h => h.elim) (Or.inl ⟨by rfl, ?yf3⟩) hS ?rf3
            case yf3 => (intro w' hS'; obtain ⟨hp0, hp1, hp2⟩ := hS'; go_simp; try rfl)
            simp only [Act.put, List.getElem_toArray, List.getElem_cons_succ, List.getElem_cons_zero, List.setIfInBounds_toArray, List.set_cons_zero, List.set_cons_succ]
            refine wpHJ_take (v := ?vf4) 4 hFa rfl (by kernel_rfl) (fun _ _ _ h => h.elim) (Or.inl ⟨by rfl, ?yf4⟩) hS ?rf4
            case yf4 => (intro w' hS'; obtain ⟨hp0, hp1, hp2⟩ := hS'; go_simp; try rfl)
            simp only [Act.put, List.getElem_toArray, List.getElem_cons_succ, List.getElem_cons_zero, List.setIfInBounds_toArray, List.set_cons_zero, List.set_cons_succ]
            refine wpHJ_take (v := ?vf5) 5 hFa rfl (by kernel_rfl) (fun _ _ _ h => h.elim) (Or.inl ⟨by rfl, ?yf5⟩) hS ?rf5
            case yf5 => (intro w' hS'; obtain ⟨hp0, hp1, hp2⟩ := hS'; go_simp; try rfl)
            simp only [Act.put, List.getElem_toArray, List.getElem_cons_succ, List.getElem_cons_zero, List.setIfInBounds_toArray, List.set_cons_zero, List.set_cons_succ]
            refine wpHJ_take (v := ?vf6) 6 hFa rfl (by kernel_rfl) (fun _ _ _ h => h.elim) (Or.inl ⟨by rfl, ?yf6⟩) hS ?rf6
            case yf6 => (intro w' hS'; obtain ⟨hp0, hp1, hp2⟩ := hS'; go_simp; try rfl)
            simp only [Act.put, List.getElem_toArray, List.getElem_cons_succ, List.getElem_cons_zero, List.setIfInBounds_toArray, List.set_cons_zero, List.set_cons_succ]
            refine wpHJ_take (v := ?vf8) 8 hFa rfl (by kernel_rfl) (fun _ _ _ h => h.elim) (Or.inl ⟨by rfl, ?yf8⟩) hS ?rf8
            case yf8 => (intro w' hS'; obtain ⟨hp0, hp1, hp2⟩ := hS'; go_simp; try rfl)
            simp only [Act.put, List.getElem_toArray, List.getElem_cons_succ, List.getElem_cons_zero, List.setIfInBounds_toArray, List.set_cons_zero, List.set_cons_succ]
            refine wpHJ_take (v := ?vf9) 9 hFa rfl (by kernel_rfl) (fun _ _ _ h => h.elim) (Or.inl ⟨by rfl, ?yf9⟩) hS ?rf9
            case yf9 => (intro w' hS'; obtain ⟨hp0, hp1, hp2⟩ := hS'; go_simp; try rfl)
            simp only [Act.put, List.getElem_toArray, List.getElem_cons_succ, List.getElem_cons_zero, List.setIfInBounds_toArray, List.set_cons_zero, List.set_cons_succ]
            refine wpHJ_take (v := ?vf10) 10 hFa rfl (by kernel_rfl) (fun _ _ _ h => h.elim) (Or.inl ⟨by rfl, ?yf10⟩) hS ?rf10
            case yf10 => (intro w' hS'; obtain ⟨hp0, hp1, hp2⟩ := hS'; go_simp; try rfl)
            simp only [Act.put, List.getElem_toArray, List.getElem_cons_succ, List.getElem_cons_zero, List.setIfInBounds_toArray, List.set_cons_zero, List.set_cons_succ]
            refine wpHJ_only 7 (by kernel_rfl) rfl ?_
            intro K hK
            go_simp
            refine hK _ _ (.inr (.inr hS)) ?_
            clear hK K
            refine wpHJ_take (v := ?vf11) 11 hFa rfl (by kernel_rfl) (fun _ _ _ h => h.elim) (Or.inl ⟨by rfl, ?yf11⟩) hS ?rf11
            case yf11 => (intro w' hS'; obtain ⟨hp0, hp1, hp2⟩ := hS'; go_simp; try rfl)
            simp only [Act.put, List.getElem_toArray, List.getElem_cons_succ, List.getElem_cons_zero, List.setIfInBounds_toArray, List.set_cons_zero, List.set_cons_succ]
            refine wpHJ_only 12 (by kernel_rfl) rfl ?_
            intro K hK
            go_simp
            refine hK _ _ (.inr (.inr hS)) ?_
            clear hK K
            refine wpHJ_done (by kernel_rfl) ?_ _
            simp only [onlyN, Exit.then]
            clear hFa
            clear hw1 hw2' hm0 hS hck hce c10 c11 c00 c01 f10 f11 f00 f01
            have HRI4 := hid HRI3.out.drewn
            have hsz4 : w2.heap.size ≤ wi.drew.heap.size := HRI4.out.sz
            generalize World.drew wi = wd at *
            by_cases hr0 : r = 0
            · subst hr0
              have HE := hid (show fitC m (x.take (j + 1)) = fitC m (x.take j) from by rw [HSN.out, if_pos rfl])
              go_wp2_with fail
              go_roundw
              case rel => exact ⟨j + 1, by omega, by go_num, by rw [HE.out]; exact HRI4.out⟩
              case measure => (simp [intOf] <;> omega)
            · have q3 : (r != 0) = true := by rw [bne_iff_ne]; exact hr0
              have HE := hid (show fitC m (x.take (j + 1)) = fitC m (x.take j) ++ [r] from by rw [HSN.out, if_neg hr0])
              have HROWC := hid HRI4.out.acc.row
              rw [show (fitS m l i (fitC m (x.take j))).c.length = C from HC.out] at HROWC
              have HINV := hid (show PInv { fitS m l i (fitC m (x.take j)) with c := fitC m (x.take j) ++ [r] } from fitS_inv (c := fitC m (x.take j) ++ [r]) ⟨hmb1, hmb2⟩ (by omega) (by have := HLL.out; omega) (by rw [← HE.out]; exact Nat.le_trans (fitC_len _ _) (by rw [List.length_take]; omega)))
              clear hr hr0
              go_wp2_with (at_builtin; refine wpList_appG _ rfl (.tmp 56) (.tmp 58) 34 rfl w2.heap.size 3 (.int .i64 0) 1 8 Tryd.underlying34 info_int rfl (by decide) (.slice pc C kc) C ((fitS m l i (fitC m (x.take j))).c.map (Value.int .i64)) rfl (HROWC.out.alloc _) ⟨wd.heap.size, 0, none⟩ 1 1 [.int .i64 r] rfl rfl (RowR.lit (R := fun _ => True) wd [.int .i64 r] 3 trivial) (by simp [Value.oneCell']) (by omega) (by unfold maxLen; omega) (by rw [World.size_alloc]; omega) ?_; intro v5 w5 ho5 hg5 hv5; obtain ⟨p5, k5, rfl⟩ := own_sliceG ho5; have HX5 := hid (RI.push HRI4.out HWL.out hg5 (fit_len HC.out ho5) hv5 HINV.out); clear ho5 hg5 hv5)
              go_roundw
              case rel => exact ⟨j + 1, by omega, by go_num, by rw [HE.out]; exact HX5.out⟩
              case measure => (simp [intOf] <;> omega)
          · obtain rfl : j = NX := by omega
            have g2 : decide ((j : Int) < (j : Int)) = false := by simp
            have hfull : x.take j = x := List.take_of_length_le (Nat.le_of_eq HNX.out)
            rw [hfull] at HRI3
            have hlines := HRI3.out.acc.lines
            obtain ⟨us, hus, _, _⟩ := hlines
            obtain ⟨pv, kv, rfl⟩ := own_sliceG hus
            obtain ⟨N, hN⟩ : ∃ N, (fitS m l i (fitC m x)).cls.length = N := ⟨_, rfl⟩
            have hNb : N ≤ 30 := by rw [← hN]; show (fitL m (l.take i)).length ≤ 30; unfold fitL; rw [List.length_map, List.length_take]; omega
            rw [hN] at HRI3 hus c11
            have HUS := hid hus; have HN := hid hN
            have HINV := hid (show PInv { fitS m l i (fitC m x) with cls := (fitS m l i (fitC m x)).cls ++ [(fitS m l i (fitC m x)).c], c := [], left := (fitS m l i (fitC m x)).left - 1 } from by
              have h := fitS_inv (m := m) (l := l) (i := i + 1) (c := []) ⟨hmb1, hmb2⟩ (by omega) (by have := HLL.out; omega) (by simp)
              rw [fitS_next HTK.out] at h; exact h)
            clear hus hN hfull
            go_wp2_with (at_builtin; refine wpList_appG _ rfl (.tmp 61) (.tmp 63) 22 rfl w2.heap.size 34 (.slice none 0 0) 1 24 Tryd.underlying22 info_ints rfl (by decide) (.slice pv N kv) N us rfl (HUS.out.alloc _) ⟨wi.heap.size, 0, none⟩ 1 1 [.slice pc C kc] rfl rfl (RowR.lit (R := fun _ => True) wi [.slice pc C kc] 34 trivial) (by simp [Value.oneCell']) (by omega) (by unfold maxLen; omega) (by rw [World.size_alloc]; omega) ?_; intro v5 w5 ho5 hg5 hv5; obtain ⟨d10, d11, e10, e11⟩ := HRI3.out.b1g HWL.out hg5 (fun k hk => (HUS.out.lt k hk).1); obtain ⟨p5, k5, rfl⟩ := own_sliceG ho5; have HX5 := hid (HRI3.out.line HWL.out hg5 (fit_len2 HN.out HUS.out) (fit_len3 HN.out ho5) hv5 HINV.out); clear ho5 hg5 hv5)
            go_roundw
            case rel => exact ⟨i + 1, _, by omega, by go_num, by rw [fitS_next HTK.out]; exact HX5.out, fun j' hj' h' => HROW1.out j' hj' h' hNXb⟩
            case measure => (simp [intOf] <;> omega)
      · obtain rfl : i = NL := by omega
        have g1 : decide ((i : Int) < (i : Int)) = false := by simp
        have hok : fitOk l = true := fitOk_ok (by have := HLL.out; omega) (fun j hj => HROWS.out j hj (by have := HLL.out; omega))
        have hcls : (fitS m l i []).cls = fitL m l := by show fitL m (l.take i) = _; rw [List.take_of_length_le (by have := HLL.out; omega)]
        have hll := HRI2.out.acc.ll (by rw [hcls]; unfold fitL; rw [List.length_map]; have := HLL.out; omega)
        rw [hcls] at hll
        obtain ⟨us, hus, _, _⟩ := HRI2.out.acc.lines
        obtain ⟨pv, kv, rfl⟩ := own_sliceG hus
        obtain ⟨N, hN⟩ : ∃ N, (fitS m l i []).cls.length = N := ⟨_, rfl⟩
        rw [hN] at HRI2 hll c11
        have HOK := hid hok; have HLLL := hid hll
        clear hus hok hcls hll hN
        go_wp2_with fail
        obtain ⟨d0, d1⟩ := box_two HRI2.out.b0 (.int .i64 m) (.slice pv N kv)
        refine bodyPost_ret (v := .tuple #[.agg #[.int .i64 m, .slice pv N kv], .bool true]) (by simp [results, Tryd.results18, go_sem, d0, d1]) rfl ?_
        refine ⟨.slice pv N kv, by rw [HOK.out, HM.out]; rfl, ?_, ((HRI2.out.old HB2.out).setCell (p := ⟨w.heap.size, 0, none⟩) (Nat.le_refl _) _).setCell (p := ⟨w.heap.size, 1, none⟩) (Nat.le_refl _) _⟩
        rw [HOK.out, HM.out]
        exact HLLL.out.keep fun k ⟨h1, h2, _⟩ => ⟨⟨by have := HWL.out; omega, by simpa using h2⟩, (heap_oth (by have := HWL.out; omega) _).trans (heap_oth (by have := HWL.out; omega) _)⟩

end Go.Proofs.YtfllhhgnflpagaaDoor
