/-
  The walks of package adder's Equal and Less.
-/
import Derived.Test.YtngimdbjcelkeaaAdd8
namespace Go.Proofs.Ytngimdbjcelkeaa
set_option linter.unusedSimpArgs false
set_option linter.unusedVariables false
open Go.RowKit Go.Shelf
attribute [local go_sem] Oper.semAt_some

/-- What a scalar loop carries: the state st, over the box Bd. -/
structure ScalI (mb bb Bd : Nat) (W0 : World) (st : Int × MS) (W : World) : Prop where
  m : IsM W mb bb st.2
  ad : AwayM mb bb W Bd
  c : W.cell? ⟨Bd, 0, none⟩ = some (.int .i64 st.1)
  cf : W.frozen? ⟨Bd, 0, none⟩ = false
  lp : AwayM mb bb W W0.heap.size ∧ AwayM mb bb W (W0.heap.size + 1)
  fr : Fr (fun j => AwayM mb bb W0 j ∧ j ≠ Bd) (fun j => AwayM mb bb W j ∧ j ≠ Bd) W0 W

theorem ScalI.cl {mb bb Bd : Nat} {W0 W W' : World} {st : Int × MS} {row : Option Nat} (h : ScalI mb bb Bd W0 st W) (hg : W.grownBy W' row)
    (hr : ∀ r, row = some r → W0.heap.size ≤ r ∧ ∃ o : Obj, W.heap[r]? = some o ∧ o.isCells = false) : ScalI mb bb Bd W0 st W' := by
  have hc := Cl.of hg (fun r e => (hr r e).2)
  have hm := hc.isM h.m
  refine ⟨hm.1, hm.2 _ h.ad, hc.cell h.c, (hc.frozen h.c).trans h.cf, ⟨hm.2 _ h.lp.1, hm.2 _ h.lp.2⟩, ?_⟩
  have hf := h.fr
  exact ⟨hg.os.trans hf.os, hg.tape.trans hf.tape, hg.output.trans hf.output, Nat.le_trans hf.size hg.size, fun j hj => by
    obtain ⟨⟨a1, a2⟩, e⟩ := hf.keep j hj
    have hjlt := hj.1.1.size
    exact ⟨⟨hm.2 _ a1, a2⟩, (hg.block j (Nat.lt_of_lt_of_le hjlt hf.size) (fun e' => by have := (hr j e'.symm).1; omega)).trans e⟩⟩

theorem scal_ok (step : Int × MS → Int × Int → Int × MS) (hs : ∀ st x, st.2.1.vars ≤ 1048576 → Bd st.1 → Bd x.1 → Bd x.2 → (step st x).2.1.vars ≤ 1048576 ∧ Bd (step st x).1) (l : List (Int × Int)) (hl : ∀ x ∈ l, Bd x.1 ∧ Bd x.2) :
    ∀ st : Int × MS, st.2.1.vars ≤ 1048576 → Bd st.1 → (l.foldl step st).2.1.vars ≤ 1048576 ∧ Bd (l.foldl step st).1 := by
  induction l with
  | nil => intro st h1 h2; exact ⟨h1, h2⟩
  | cons x l ih =>
    intro st h1 h2
    obtain ⟨a, b⟩ := hs st x h1 h2 (hl x (by simp)).1 (hl x (by simp)).2
    exact ih (fun y hy => hl y (by simp [hy])) _ a b
theorem eqStep_bd (st : Int × MS) (x : Int × Int) (hs : st.2.1.vars ≤ 1048576) (h1 : Bd st.1) (hx : Bd x.1) (hy : Bd x.2) : (eqStep st x).2.1.vars ≤ 1048576 ∧ Bd (eqStep st x).1 := by
  have hv := mkM_vars (g := fun F => xorM F x.1 x.2) (s := st.2) hs (fun F hF => xorM_vars F _ _ hF)
  have hb := mkM_bd (g := fun F => xorM F x.1 x.2) (s := st.2) (xorM_bd _ _ _ hs hx hy)
  exact ⟨mkM_vars hv (fun F hF => orM_vars F _ _ hF), mkM_bd (orM_bd _ _ _ hv h1 hb)⟩
theorem lsStep_bd (st : Int × MS) (x : Int × Int) (hs : st.2.1.vars ≤ 1048576) (h1 : Bd st.1) (hx : Bd x.1) (hy : Bd x.2) : (lsStep st x).2.1.vars ≤ 1048576 ∧ Bd (lsStep st x).1 := by
  have hv := mkM_vars (g := fun F => xorM F x.1 x.2) (s := st.2) hs (fun F hF => xorM_vars F _ _ hF)
  have hb := mkM_bd (g := fun F => xorM F x.1 x.2) (s := st.2) (xorM_bd _ _ _ hs hx hy)
  exact ⟨mkM_vars hv (fun F hF => muxM_vars F _ _ _ hF), mkM_bd (muxM_bd _ _ _ _ hv hy h1)⟩

set_option maxRecDepth 100000 in
set_option maxHeartbeats 3200000 in
theorem equal_any (bb : Nat) (F : Form) (xs ys : List Int) (vx vy : Value) (w : World) (hB : IsB w bb F) (hx : Ints (Away bb w) w vx xs) (hy : Ints (Away bb w) w vy ys)
    (hlit : ∀ l ∈ [xs, ys], ∀ x ∈ l, -9223372036854775807 ≤ x ∧ x ≤ 9223372036854775807) :
    Calls Try.prog 33 #[.pointer (some ⟨bb, 0, none⟩), vx, vy] w (GatePost bb w (equalM F xs ys)) := by
  obtain ⟨px, cx, rfl, hx1, hx2, hx3, hrx⟩ := hx.op
  obtain ⟨py, cy, rfl, hy1, hy2, hy3, hry⟩ := hy.op
  have hck := check2 bb F xs ys px py cx cy w hB hx hy hlit
  have hBl := hB.lt
  unfold equalM
  by_cases hc0 : checkM F [] [xs, ys] = 0
  · rw [if_pos hc0]
    rw [hc0] at hck
    obtain ⟨hl1, hl64, hyl, -, hkx, hky⟩ := check_two hc0
    have hv := hB.vars
    have HBX := hid (hasAll_bd hv hkx)
    have HBY := hid (hasAll_bd hv hky)
    have HYL := hid hyl
    have HCK := hid hck
    have HR := hid (And.intro hrx hry)
    clear hck hc0 hrx hry hx hy hB hlit hkx hky hyl
    refine (callsIn_wide (n := 9)).1 ?_
    refine callsIn_of_wp_marks Try.func33 rfl trivial ?_ rfl
    simp only [Try.ntmps33, List.size_toArray, List.length_cons, List.length_nil, Nat.reduceAdd, Nat.reduceSub, Array.replicate_succ, Array.replicate_zero, List.push_toArray, List.append_toArray, List.nil_append, List.cons_append]
    gi_wp2_with fail
    refine ⟨trivial, ?_⟩
    refine (callsIn_wide.2 HCK.out).mono ?_
    rintro e w1 ⟨rfl, hB1, hf1⟩
    have HRX := hid (HR.out.1.fr hf1)
    have HRY := hid (HR.out.2.fr hf1)
    have HB1 := hid hB1; have HF1 := hid hf1
    clear hB1 hf1 HCK HR
    gi_wp2_with fail
    refine ⟨trivial, ?_⟩
    refine (callsIn_wide.2 (true_any _ _)).mono ?_
    rintro e w2 ⟨rfl, rfl⟩
    gi_wp2_with fail
    refine ⟨trivial, ?_⟩
    gi_at_call 91
    refine (callsIn_wide.2 (callsIn_wide.1 (pairs_any _ _ _ _ _ _ _))).mono ?_
    rintro e w2 ⟨rfl, rfl⟩
    gi_wp2_with fail
    generalize hW0 : World.alloc _ _ = W0
    have hbW : Below w1.heap.size w1 W0 := by
      rw [← hW0]
      exact (((((Below.refl _ _).alloc (Nat.le_refl _) _).alloc (by simp only [World.size_alloc]; omega) _).alloc (by simp only [World.size_alloc]; omega) _).alloc (by simp only [World.size_alloc]; omega) _).alloc (by simp only [World.size_alloc]; omega) _
    have hsz : W0.heap.size = w1.heap.size + 5 := by rw [← hW0]; simp only [World.size_alloc]
    have q0 : W0.heap[w1.heap.size]? = some (.cells #[.pointer (some ⟨bb, 0, none⟩), .int .i64 0] 129 (0, 0)) := by rw [← hW0]; rw [heap_al, if_neg (by simp only [World.size_alloc]; omega)]; rw [heap_al, if_neg (by simp only [World.size_alloc]; omega)]; rw [heap_al, if_neg (by simp only [World.size_alloc]; omega)]; rw [heap_al, if_neg (by simp only [World.size_alloc]; omega)]; rw [heap_al, if_pos (by simp only [World.size_alloc])]
    have q1 : W0.heap[w1.heap.size + 1]? = some (.cells #[.pointer (some ⟨w1.heap.size, 0, none⟩)] 127 (0, 0)) := by rw [← hW0]; rw [heap_al, if_neg (by simp only [World.size_alloc]; omega)]; rw [heap_al, if_neg (by simp only [World.size_alloc]; omega)]; rw [heap_al, if_neg (by simp only [World.size_alloc]; omega)]; rw [heap_al, if_pos (by simp only [World.size_alloc])]
    have q2 : W0.heap[w1.heap.size + 1 + 1]? = some (.cells #[.int .i64 (-1)] 3 (0, 0)) := by rw [← hW0]; rw [heap_al, if_neg (by simp only [World.size_alloc]; omega)]; rw [heap_al, if_neg (by simp only [World.size_alloc]; omega)]; rw [heap_al, if_pos (by simp only [World.size_alloc])]
    have q3 : W0.heap[w1.heap.size + 1 + 1 + 1]? = some (.cells #[.slice px xs.length cx] 23 (0, 0)) := by rw [← hW0]; rw [heap_al, if_neg (by simp only [World.size_alloc]; omega)]; rw [heap_al, if_pos (by simp only [World.size_alloc])]
    have q4 : W0.heap[w1.heap.size + 1 + 1 + 1 + 1]? = some (.cells #[.slice py ys.length cy] 23 (0, 0)) := by rw [← hW0]; rw [heap_al, if_pos (by simp only [World.size_alloc])]
    clear hW0
    have hB1 := HB1.out
    have hBW := hB1.below hbW
    have hfW : FrB bb w1 W0 := FrB.of_below hB1 hbW
    have hfw := HF1.out.trans hfW
    have hws := HF1.out.size
    have hnew : ∀ i, i < 5 → Away bb W0 (w1.heap.size + i) := fun i hi => hB1.away_new hbW (by omega) (by omega)
    have hM0 : IsM W0 w1.heap.size bb (F, 0) := ⟨q0, hnew 0 (by omega), hBW⟩
    have hS0 : ∀ j, Away bb w1 j → (AwayM w1.heap.size bb W0 j ∧ j ≠ w1.heap.size + 1 + 1) ∧ W0.heap[j]? = w1.heap[j]? := fun j hj => by
      have := hj.size
      exact ⟨⟨⟨(hfW.keep j hj).1, by omega⟩, by omega⟩, (hfW.keep j hj).2⟩
    refine wp_range_pairs (w1.heap.size + 1 + 1 + 1) (w1.heap.size + 1 + 1 + 1 + 1) (fun j => AwayM w1.heap.size bb W0 j ∧ j ≠ w1.heap.size + 1 + 1) px py cx cy xs ys HYL.out (by omega) rfl rfl
      (fun k hk => hk.1.1.size) ⟨⟨hnew 3 (by omega), by omega⟩, by omega⟩ ⟨⟨hnew 4 (by omega), by omega⟩, by omega⟩ (by simp [World.cell?, q3]) (by simp [World.cell?, q4])
      (HRX.out.keep hS0) (HRY.out.keep hS0)
      (fun k W => ScalI w1.heap.size bb (w1.heap.size + 1 + 1) W0 (((xs.zip ys).take k).foldl eqStep (-1, (F, 0))) W)
      (fun s W W' row h hg hr => h.cl hg hr) ?h0 ?a1 ?assign ?body ?done
    case assign =>
      intro l x y W K hK
      gi_wp2
      exact hK
    case h0 =>
      intro o o' ho ho'
      have hb2 : Below W0.heap.size W0 ((W0.alloc o).alloc o') := ((Below.refl _ _).alloc (Nat.le_refl _) _).alloc (by simp) _
      have hA : ∀ j, Away bb W0 j → Away bb ((W0.alloc o).alloc o') j := fun j hj => ((FrB.of_below hBW hb2).keep j hj).1
      have hcl : ∀ j, j < W0.heap.size → ((W0.alloc o).alloc o').heap[j]? = W0.heap[j]? := fun j hj => hb2.block j hj
      refine ⟨⟨(hcl _ (by omega)).trans q0, hA _ hM0.away, hBW.below hb2⟩, ⟨hA _ (hnew 2 (by omega)), by omega⟩, ?_, ?_,
        ⟨⟨hBW.away_new hb2 (by omega) (by simp only [World.size_alloc]; omega), by omega⟩, ⟨hBW.away_new hb2 (by omega) (by simp only [World.size_alloc]; omega), by omega⟩⟩, ?_⟩
      · simp only [World.cell?, hcl (w1.heap.size + 1 + 1) (by omega), q2]; rfl
      · simp only [World.frozen?, hcl (w1.heap.size + 1 + 1) (by omega), q2]; rfl
      · exact Fr.of_below hb2 fun j hj => ⟨hj.1.1.size, ⟨hA j hj.1.1, hj.1.2⟩, hj.2⟩
    case body =>
      intro l k hk hk' W hI
      have hbxk := HBX.out _ (List.getElem_mem hk)
      have hbyk := HBY.out _ (List.getElem_mem hk')
      have hz : k < (xs.zip ys).length := by rw [List.length_zip]; omega
      have hok := scal_ok eqStep eqStep_bd ((xs.zip ys).take k) (fun z hz => by
        have := List.of_mem_zip (List.mem_of_mem_take hz)
        exact ⟨HBX.out _ this.1, HBY.out _ this.2⟩) (-1, (F, 0)) hv (by unfold Bd; omega)
      have hsnoc : ((xs.zip ys).take (k + 1)).foldl eqStep (-1, (F, 0)) = eqStep (((xs.zip ys).take k).foldl eqStep (-1, (F, 0))) (xs[k], ys[k]) := by
        rw [List.take_succ_eq_append_getElem hz, List.foldl_append, List.getElem_zip]; rfl
      rw [hsnoc]
      clear hsnoc
      try dsimp only
      generalize xs[k] = x at *
      generalize ys[k] = y at *
      generalize ((xs.zip ys).take k).foldl eqStep (-1, (F, 0)) = st at *
      obtain ⟨hM, had, hc, hcf, hlp, hfr⟩ := hI.cl (W' := W.drew) (row := none) ⟨rfl, rfl, rfl, Nat.le_refl _, fun _ _ _ => rfl⟩ (fun r e => by cases e)
      have km := hfr.keep (w1.heap.size + 1) ⟨⟨hnew 1 (by omega), by omega⟩, by omega⟩
      have cm : W.drew.cell? ⟨w1.heap.size + 1, 0, none⟩ = some (.pointer (some ⟨w1.heap.size, 0, none⟩)) := by simp only [World.cell?, km.2, q1]; rfl
      have hbd0 := hok.2
      have hcall := mxor_any w1.heap.size bb st.2 x y W.drew hM hbxk hbyk
      have HCALL := hid hcall; clear hcall
      have hbd1 := mkM_bd (g := fun F => xorM F x y) (s := st.2) (xorM_bd _ _ _ hM.b.vars hbxk hbyk)
      have hst : eqStep st (x, y) = mkM (fun F => orM F st.1 (mkM (fun F => xorM F x y) st.2).1) (mkM (fun F => xorM F x y) st.2).2 := rfl
      generalize hR : mkM (fun F => xorM F x y) st.2 = r at *
      have hmo : Try.prog.follows .mixedOrders = true := by kernel_rfl
      have hFa : ∀ f, (Fence.wide.inRound l).fn f := fun _ => trivial
      have hS : (fun W' : World => W'.cell? ⟨w1.heap.size + 1 + 1, 0, none⟩ = some (.int .i64 st.1) ∧ W'.cell? ⟨w1.heap.size + 1, 0, none⟩ = some (.pointer (some ⟨w1.heap.size, 0, none⟩))) W.drew := ⟨hc, cm⟩
      gi_wp2_with fail
      refine wpIn_region_HI (fun W' : World => W'.cell? ⟨w1.heap.size + 1 + 1, 0, none⟩ = some (.int .i64 st.1) ∧ W'.cell? ⟨w1.heap.size + 1, 0, none⟩ = some (.pointer (some ⟨w1.heap.size, 0, none⟩))) 7 hmo ?_
      simp only [List.size_toArray, List.length_cons, List.length_nil, Nat.reduceAdd]
      refine wpHI_take (v := ?v0) 0 hFa rfl (by kernel_rfl) (fun _ _ _ h => h) (Or.inl ⟨by rfl, ?y0⟩) hS ?r0
      case y0 => (intro w' hS'; obtain ⟨s1, s2⟩ := hS'; go_simp; try rfl)
      simp only [Act.put, List.setIfInBounds_toArray, List.set_cons_zero, List.set_cons_succ]
      refine wpHI_take (v := ?v1) 1 hFa rfl (by kernel_rfl) (fun _ _ _ h => h) (Or.inl ⟨by rfl, ?y1⟩) hS ?r1
      case y1 => (intro w' hS'; obtain ⟨s1, s2⟩ := hS'; go_simp; try rfl)
      simp only [Act.put, List.setIfInBounds_toArray, List.set_cons_zero, List.set_cons_succ]
      refine wpHI_take (v := ?v2) 2 hFa rfl (by kernel_rfl) (fun _ _ _ h => h) (Or.inl ⟨by rfl, ?y2⟩) hS ?r2
      case y2 => (intro w' hS'; obtain ⟨s1, s2⟩ := hS'; go_simp; try rfl)
      simp only [Act.put, List.setIfInBounds_toArray, List.set_cons_zero, List.set_cons_succ]
      refine wpHI_take (v := ?v3) 3 hFa rfl (by kernel_rfl) (fun _ _ _ h => h) (Or.inl ⟨by rfl, ?y3⟩) hS ?r3
      case y3 => (intro w' hS'; obtain ⟨s1, s2⟩ := hS'; go_simp; try rfl)
      simp only [Act.put, List.setIfInBounds_toArray, List.set_cons_zero, List.set_cons_succ]
      refine wpHI_take (v := ?v4) 4 hFa rfl (by kernel_rfl) (fun _ _ _ h => h) (Or.inl ⟨by rfl, ?y4⟩) hS ?r4
      case y4 => (intro w' hS'; obtain ⟨s1, s2⟩ := hS'; go_simp; try rfl)
      simp only [Act.put, List.setIfInBounds_toArray, List.set_cons_zero, List.set_cons_succ]
      refine wpHI_only 5 (by kernel_rfl) rfl ?_
      intro K hK
      go_simp
      refine (CallsIn.inRound l (callsIn_wide.2 HCALL.out)).mono ?_
      rintro e W2 ⟨rfl, hM2, hfr2⟩
      have ad2 := (hfr2.keep _ had).1
      have hc2 := (hfr2.cell (i := 0) had).trans hc
      have hcf2 := (hfr2.frozen (i := 0) had).trans hcf
      have cm2 := (hfr2.cell (i := 0) km.1.1).trans cm
      have hcall2 := mor_any w1.heap.size bb r.2 st.1 r.1 W2 hM2 hbd0 hbd1
      generalize hR2 : mkM (fun F => orM F st.1 r.1) r.2 = r2 at *
      have HCALL2 := hid hcall2; clear hcall2
      have HST := hid hst; clear hst
      refine hK _ _ (.inr ⟨hc2, cm2⟩) ?_
      clear hK K
      refine wpHI_only 6 (by kernel_rfl) rfl ?_
      intro K hK
      go_simp
      refine (CallsIn.inRound l (callsIn_wide.2 HCALL2.out)).mono ?_
      rintro e W3 ⟨rfl, hM3, hfr3⟩
      have ad3 := (hfr3.keep _ ad2).1
      have hc3 := (hfr3.cell (i := 0) ad2).trans hc2
      have hcf3 := (hfr3.frozen (i := 0) ad2).trans hcf2
      have cm3 := (hfr3.cell (i := 0) (hfr2.keep _ km.1.1).1).trans cm2
      refine hK _ _ (.inr ⟨hc3, cm3⟩) ?_
      clear hK K
      refine wpHI_only 7 (by kernel_rfl) rfl ?_
      intro K hK
      go_simp
      refine hK _ _ (.inl rfl) ?_
      clear hK K
      refine wpHI_done (by kernel_rfl) ?_ _
      gi_wp2
      rw [HST.out]
      obtain ⟨g1, g2, g3⟩ := hM3.far ad3 0 (Value.int .i64 r2.1)
      have hstep : ∀ j, AwayM w1.heap.size bb W.drew j → j ≠ w1.heap.size + 1 + 1 →
          AwayM w1.heap.size bb (W3.setCell ⟨w1.heap.size + 1 + 1, 0, none⟩ (Value.int .i64 r2.1)) j ∧ (W3.setCell ⟨w1.heap.size + 1 + 1, 0, none⟩ (Value.int .i64 r2.1)).heap[j]? = W.drew.heap[j]? := fun j hj h2 => by
        obtain ⟨k1, k2⟩ := hfr2.keep j hj
        obtain ⟨k3, k4⟩ := hfr3.keep j k1
        obtain ⟨k5, k6⟩ := g2.keep j ⟨k3, h2⟩
        exact ⟨k5, k6.trans (k4.trans k2)⟩
      refine ⟨⟨(hstep _ hlp.1 (by omega)).2, (hstep _ hlp.2 (by omega)).2⟩, fun j hj => (hstep j (hfr.keep j hj).1.1 hj.2).2, ?_⟩
      refine ⟨g1, g3 _ ad3, World.cell?_setCell_same (a := ⟨w1.heap.size + 1 + 1, 0, none⟩) (v := Value.int .i64 r2.1) _ hc3, ?_, ⟨(hstep _ hlp.1 (by omega)).1, (hstep _ hlp.2 (by omega)).1⟩, ?_⟩
      · rw [World.frozen?_setCell]; exact hcf3
      · exact ⟨g2.os.trans (hfr3.os.trans (hfr2.os.trans hfr.os)), g2.tape.trans (hfr3.tape.trans (hfr2.tape.trans hfr.tape)), g2.output.trans (hfr3.output.trans (hfr2.output.trans hfr.output)),
          Nat.le_trans hfr.size (Nat.le_trans hfr2.size (Nat.le_trans hfr3.size g2.size)), fun j hj => by
            obtain ⟨k1, k2⟩ := hfr.keep j hj
            obtain ⟨k3, k4⟩ := hstep j k1.1 k1.2
            exact ⟨⟨k3, k1.2⟩, k4.trans k2⟩⟩
    case done =>
      intro D W hD hI hdef
      rw [show (xs.zip ys).take xs.length = xs.zip ys from List.take_of_length_le (by rw [List.length_zip]; omega)] at hI
      have hok := scal_ok eqStep eqStep_bd (xs.zip ys) (fun z hz => by
        have := List.of_mem_zip hz
        exact ⟨HBX.out _ this.1, HBY.out _ this.2⟩) (-1, (F, 0)) hv (by unfold Bd; omega)
      generalize (xs.zip ys).foldl eqStep (-1, (F, 0)) = st at *
      obtain ⟨hM, had, hc, hcf, hlp, hfr⟩ := hI
      have km := hfr.keep (w1.heap.size + 1) ⟨⟨hnew 1 (by omega), by omega⟩, by omega⟩
      have cm : W.cell? ⟨w1.heap.size + 1, 0, none⟩ = some (.pointer (some ⟨w1.heap.size, 0, none⟩)) := by simp only [World.cell?, km.2, q1]; rfl
      have c1 : W.cell? ⟨w1.heap.size, 1, none⟩ = some (.int .i64 st.2.2) := by simp only [World.cell?, hM.blk]; rfl
      have hbst := hok.2
      unfold Bd at hbst
      have hone := one_any w1.heap.size st.2.2 (-st.1) W c1
      have hlm := litM_eq (-st.1) st.2
      generalize (if st.2.2 = 0 then -st.1 else 0) = q at *
      have HONE := hid hone; clear hone
      have HLM := hid hlm; clear hlm
      clear hok
      gi_wp2_with fail
      refine ⟨trivial, ?_⟩
      refine (callsIn_wide.2 HONE.out).mono ?_
      rintro e W3 ⟨rfl, hb3⟩
      gi_wp2_with fail
      have hdef3 : W3.heap[D]? = some (.deferred (some [])) := (hb3.block D (Array.getElem?_eq_some_iff.1 hdef).1).trans hdef
      refine ⟨by simp, .inl ⟨_, _, rfl, run_takeDeferred hdef3, ?_⟩⟩
      have hDlt := (Array.getElem?_eq_some_iff.1 hdef).1
      have hg5 : W3.grownBy (W3.putObj D (.deferred none)) (some D) := grownBy_putObj' W3 D _
      have hcl : Cl W (W3.putObj D (.deferred none)) := by
        have h1 : Cl W W3 := Cl.of (row := none) ⟨hb3.os, hb3.tape, hb3.output, hb3.size, fun k hk _ => hb3.block k hk⟩ (fun r e => by cases e)
        have h2 : Cl W3 (W3.putObj D (.deferred none)) := Cl.of hg5 (fun r e => by cases e; exact ⟨_, hdef3, rfl⟩)
        exact ⟨h2.os.trans h1.os, h2.tape.trans h1.tape, h2.output.trans h1.output, Nat.le_trans h1.size h2.size, fun k c t fz hk => h2.keep _ _ _ _ (h1.keep _ _ _ _ hk)⟩
      obtain ⟨hM5, hA5⟩ := hcl.isM hM
      have hfr5 : FrB bb w (W3.putObj D (.deferred none)) := ⟨hcl.os.trans (hfr.os.trans hfw.os), hcl.tape.trans (hfr.tape.trans hfw.tape), hcl.output.trans (hfr.output.trans hfw.output),
        Nat.le_trans hfw.size (Nat.le_trans hfr.size hcl.size), fun j hj => by
          have hjl := hj.size
          obtain ⟨k1, k2⟩ := hfw.keep j hj
          obtain ⟨k3, k4⟩ := hfr.keep j ⟨⟨k1, by omega⟩, by omega⟩
          exact ⟨(hA5 _ k3.1).1, (hg5.block j (by have := hb3.size; have := k3.1.1.size; omega) (fun e => by injection e with e; omega)).trans ((hb3.block j k3.1.1.size).trans (k4.trans k2))⟩⟩
      refine ⟨.tuple #[.int .i64 q, .int .i64 st.2.2], by simp [results, Try.results33, go_sem], ?_⟩
      rw [HLM.out]
      exact ⟨rfl, hM5.b, hfr5⟩
  · have e : (if checkM F [] [xs, ys] = 0 then litM (-((xs.zip ys).foldl eqStep (-1, (F, 0))).1) ((xs.zip ys).foldl eqStep (-1, (F, 0))).2 else (0, checkM F [] [xs, ys], F)) = (0, checkM F [] [xs, ys], F) := if_neg hc0
    rw [e]; clear e
    have hd : (checkM F [] [xs, ys] != 0) = true := by simp [hc0]
    generalize checkM F [] [xs, ys] = er at *
    have HCK := hid hck
    clear hck hc0 hrx hry hx hy hB hlit
    go_enter Try.func33, Try.ntmps33
    go_wp2_with (go_at_call 87; refine HCK.out.mono ?_; rintro e w1 ⟨rfl, hB1, hf1⟩)
    go_ret2
    exact ⟨rfl, hB1, hf1⟩

end Go.Proofs.Ytngimdbjcelkeaa
