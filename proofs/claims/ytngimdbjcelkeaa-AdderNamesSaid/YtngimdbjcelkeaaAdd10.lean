/-
  The walks of package adder's Less.
-/
import Derived.Test.YtngimdbjcelkeaaAdd9
import Derived.Test.YtngimdbjcelkeaaDec2
import Derived.Test.YtngimdbjcelkeaaReg
namespace Go.Proofs.Ytngimdbjcelkeaa
set_option linter.unusedSimpArgs false
set_option linter.unusedVariables false
open Go.RowKit Go.Shelf
attribute [local go_sem] Oper.semAt_some


theorem wpListIn_app {F : Fence} {n0 : Nat} {P : Program} {w : World} (hF : ∀ f, F.fn f) {R : Nat → Prop} {ops : Array Oper} {rest : List Oper} {o : Oper} {a : Act} {Q : Exit → Act → World → Prop} (hgd : o.guard = none) (s x : Operand) (t : TypeId)
    (ho : o.op = .call { callee := .builtin .append, args := #[s, x], argTypes := #[t, t] })
    (base : Nat) (e : TypeId) (z : Value) (bytes : Nat) (ht : P.underlying t = some (.slice e))
    (hinfo : (P.info? e).map (fun i => (i.zero, i.size, i.bytes)) = some (some z, 1, bytes)) (hzs : z.cells.size = 1)
    (v : Value) (n : Nat) (xs : List Value) (hs : a.eval s = v) (hown : w.ownsRow base e 1 v n xs)
    (p : Option Addr) (m c : Nat) (news : List Value) (hx : a.eval x = .slice p m c) (hm : m = news.length) (hr : RowR R w p news) (h1 : ∀ u ∈ news, u.oneCell' = true)
    (hsz : (n + m) * bytes ≤ 140737488355328) (h63 : n + m ≤ maxLen) (hbase : base ≤ w.heap.size)
    (h : ∀ v' w', w'.ownsRow base e 1 v' (n + m) (xs ++ news) → w.grownBy w' v.ownBlock → (v'.ownBlock = v.ownBlock ∨ v'.ownBlock = some w.heap.size) → wpListIn F n0 P ops Q rest (a.put o.dst v') w') : wpListIn F n0 P ops Q (o :: rest) a w :=
  wpListIn_plain hgd fun _ hK => wpIn_app hF s x t ho base e z bytes ht hinfo hzs v n xs hs hown p m c news hx hm hr h1 hsz h63 hbase fun v' w' h2 h3 h4 => hK _ _ (h v' w' h2 h3 h4)

theorem cell_far (w : World) (b i b' j : Nat) (v : Value) (h : b ≠ b') : (w.setCell ⟨b, i, none⟩ v).cell? ⟨b', j, none⟩ = w.cell? ⟨b', j, none⟩ := World.cell?_of_block (a := ⟨b', j, none⟩) (Below.heap_setCell _ _ _ _ (Ne.symm h))
theorem cell_same {w : World} {b i : Nat} {u : Value} (v : Value) (h : w.cell? ⟨b, i, none⟩ = some u) : (w.setCell ⟨b, i, none⟩ v).cell? ⟨b, i, none⟩ = some v := World.cell?_setCell_same (w := w) (a := ⟨b, i, none⟩) (v := v) h
theorem cell_other (w : World) (b i j : Nat) (v : Value) (h : i ≠ j) : (w.setCell ⟨b, i, none⟩ v).cell? ⟨b, j, none⟩ = w.cell? ⟨b, j, none⟩ := World.cell?_setCell_other (w := w) (a := ⟨b, i, none⟩) (b := ⟨b, j, none⟩) (v := v) (by intro e; injection e with _ e; exact h e)
/-- An owned row that is not empty, as a walk reads and writes it. -/
theorem owns_open {w : World} {base e n : Nat} {v : Value} {xs : List Value} (h : w.ownsRow base e 1 v n xs) (h1 : 1 ≤ n) :
    ∃ g c, v = .slice (some ⟨g, 0, none⟩) n c ∧ base ≤ g ∧ g < w.heap.size ∧ (∀ j (hj : j < xs.length), w.cell? ⟨g, j, none⟩ = some xs[j]) ∧ ∀ j, j < n → w.frozen? ⟨g, j, none⟩ = false := by
  have hl := h.1
  rcases h.2 with ⟨_, h0⟩ | ⟨g, cap, cur, rfl, hb, hg, hnc, hcm, hcs, ht⟩
  · omega
  · refine ⟨g, cap, rfl, hb, (h.lt g rfl).2, fun j hj => ?_, fun j hj => ?_⟩
    · rw [h.cellAt j (by omega)]; exact List.getElem?_eq_getElem hj
    · exact h.frozenAt j

/-- A row whose last cell is turned. -/
theorem row_turn {R' : Nat → Prop} {w w' : World} {g n : Nat} {xs : List Int} (hn : n = xs.length) (h1 : 1 ≤ n) (hc : ∀ j (hj : j < (xs.map (Value.int .i64)).length), w.cell? ⟨g, j, none⟩ = some (xs.map (Value.int .i64))[j]) (hR : R' g)
    (hset : w'.cell? ⟨g, n - 1, none⟩ = some (.int .i64 (-(xs.getD (n - 1) 0)))) (hoth : ∀ j, j ≠ n - 1 → w'.cell? ⟨g, j, none⟩ = w.cell? ⟨g, j, none⟩) : RowR R' w' (some ⟨g, 0, none⟩) ((turnM xs).map (Value.int .i64)) := by
  subst hn
  refine .inr ⟨g, 0, rfl, hR, fun j hj => ?_⟩
  have hj2 : j < xs.length := by rw [List.length_map, turn_len] at hj; exact hj
  rw [Nat.zero_add]
  by_cases e : j = xs.length - 1
  · subst e; rw [hset]; simp [turnM]
  · rw [hoth j e, hc j (by simpa using hj2)]
    simp only [List.getElem_map, turnM]
    rw [List.getElem_set_ne (by omega)]

set_option maxRecDepth 100000 in
set_option maxHeartbeats 3200000 in
theorem less_u (bb : Nat) (F : Form) (xs ys : List Int) (px py : Option Addr) (cx cy : Nat) (w : World) (hB : IsB w bb F) (hx : Ints (Away bb w) w (.slice px xs.length cx) xs) (hy : Ints (Away bb w) w (.slice py ys.length cy) ys)
    (hlit : ∀ l ∈ [xs, ys], ∀ x ∈ l, -9223372036854775807 ≤ x ∧ x ≤ 9223372036854775807) (hc0 : checkM F [] [xs, ys] = 0) (hrx : RowR (Away bb w) w px (xs.map (Value.int .i64))) (hry : RowR (Away bb w) w py (ys.map (Value.int .i64))) :
    Calls Try.prog 32 #[.pointer (some ⟨bb, 0, none⟩), .slice px xs.length cx, .slice py ys.length cy, .bool false] w (GatePost bb w (lessM F xs ys false)) := by
  have hck := check2 bb F xs ys px py cx cy w hB hx hy hlit
  have hBl := hB.lt
  unfold lessM
  rw [if_pos hc0]
  rw [hc0] at hck
  obtain ⟨hl1, hl64, hyl, -, hkx, hky⟩ := check_two hc0
  have hv := hB.vars
  have HX := hid hkx
  have HY := hid hky
  have HBX := hid (hasAll_bd hv hkx)
  have HBY := hid (hasAll_bd hv hky)
  have HYL := hid hyl
  have HCK := hid hck
  have HR := hid (And.intro hrx hry)
  clear hck hc0 hrx hry hx hy hB hlit hkx hky hyl
  simp only [Bool.false_eq_true, if_false]
  refine (callsIn_wide (n := 9)).1 ?_
  refine callsIn_of_wp_marks Try.func32 rfl trivial ?_ rfl
  simp only [Try.ntmps32, List.size_toArray, List.length_cons, List.length_nil, Nat.reduceAdd, Nat.reduceSub, Array.replicate_succ, Array.replicate_zero, List.push_toArray, List.append_toArray, List.nil_append, List.cons_append]
  gi_wp2_with fail
  refine ⟨trivial, ?_⟩
  refine (callsIn_wide.2 HCK.out).mono ?_
  rintro e w1 ⟨rfl, hB1, hf1⟩
  have HRX := hid (HR.out.1.fr hf1)
  have HRY := hid (HR.out.2.fr hf1)
  have HB1 := hid hB1; have HF1 := hid hf1
  clear hB1 hf1 HCK HR
  gi_wp2_with fail
  first | refine (callsIn_wide.2 (true_any _ _)).mono ?_ | (refine ⟨trivial, ?_⟩; refine (callsIn_wide.2 (true_any _ _)).mono ?_)
  rintro e w2 ⟨rfl, rfl⟩
  gi_wp2_with fail
  first | gi_at_call 91 | (refine ⟨trivial, ?_⟩; gi_at_call 91)
  refine (callsIn_wide.2 (callsIn_wide.1 (pairs_any _ _ _ _ _ _ _))).mono ?_
  rintro e w2 ⟨rfl, rfl⟩
  gi_wp2_with fail
  generalize hW0 : World.alloc _ _ = W0
  have hbW : Below w1.heap.size w1 W0 := by
    rw [← hW0]
    exact (((((Below.refl _ _).alloc (Nat.le_refl _) _).alloc (by simp only [World.size_alloc]; omega) _).alloc (by simp only [World.size_alloc]; omega) _).alloc (by simp only [World.size_alloc]; omega) _).alloc (by simp only [World.size_alloc]; omega) _
  have hsz : W0.heap.size = w1.heap.size + 5 := by rw [← hW0]; simp only [World.size_alloc]
  have q0 : W0.heap[w1.heap.size]? = some (.cells #[.pointer (some ⟨bb, 0, none⟩), .int .i64 0] 129 (0, 0)) := by rw [← hW0]; rw [heap_al, if_neg (by simp only [World.size_alloc]; omega)]; rw [heap_al, if_neg (by simp only [World.size_alloc]; omega)]; rw [heap_al, if_neg (by simp only [World.size_alloc]; omega)]; rw [heap_al, if_neg (by simp only [World.size_alloc]; omega)]; rw [heap_al, if_pos (by simp only [World.size_alloc])]
  have q1 : W0.heap[w1.heap.size + 1]? = some (.cells #[.pointer (some ⟨w1.heap.size, 0, none⟩)] 127 (0, 0)) := by rw [← hW0]; rw [heap_al, if_neg (by simp only [World.size_alloc]; omega)]; rw [heap_al, if_neg (by simp only [World.size_alloc]; omega)]; rw [heap_al, if_neg (by simp only [World.size_alloc]; omega)]; rw [heap_al, if_pos (by simp only [World.size_alloc])]
  have q2 : W0.heap[w1.heap.size + 1 + 1]? = some (.cells #[.int .i64 (-1)] 3 (0, 0)) := by rw [← hW0]; rw [heap_al, if_neg (by simp only [World.size_alloc]; omega)]; rw [heap_al, if_neg (by simp only [World.size_alloc]; omega)]; rw [heap_al, if_pos (by simp only [World.size_alloc])]
  have q3 : W0.heap[w1.heap.size + 1 + 1 + 1]? = some (.cells #[.slice px xs.length cx] 23 (0, 0)) := by rw [← hW0]; rw [heap_al, if_neg (by simp only [World.size_alloc]; omega)]; rw [heap_al, if_pos (by simp only [World.size_alloc])]
  have q4 : W0.heap[w1.heap.size + 1 + 1 + 1 + 1]? = some (.cells #[.slice py ys.length cy] 23 (0, 0)) := by rw [← hW0]; rw [heap_al, if_pos (by simp only [World.size_alloc])]
  clear hW0
  have hB1 := HB1.out
  have hBW := hB1.below hbW
  have hfW : FrB bb w1 W0 := FrB.of_below hB1 hbW
  have hfw := HF1.out.trans hfW
  have hws := HF1.out.size
  have hnew : ∀ i, i < 5 → Away bb W0 (w1.heap.size + i) := fun i hi => hB1.away_new hbW (by omega) (by omega)
  have hM0 : IsM W0 w1.heap.size bb (F, 0) := ⟨q0, hnew 0 (by omega), hBW⟩
  have hS0 : ∀ j, Away bb w1 j → (AwayM w1.heap.size bb W0 j ∧ j ≠ w1.heap.size + 1 + 1) ∧ W0.heap[j]? = w1.heap[j]? := fun j hj => by
    have := hj.size
    exact ⟨⟨⟨(hfW.keep j hj).1, by omega⟩, by omega⟩, (hfW.keep j hj).2⟩
  refine wp_range_pairs (w1.heap.size + 1 + 1 + 1) (w1.heap.size + 1 + 1 + 1 + 1) (fun j => AwayM w1.heap.size bb W0 j ∧ j ≠ w1.heap.size + 1 + 1) px py cx cy xs ys HYL.out (by omega) rfl rfl
    (fun k hk => hk.1.1.size) ⟨⟨hnew 3 (by omega), by omega⟩, by omega⟩ ⟨⟨hnew 4 (by omega), by omega⟩, by omega⟩ (by simp [World.cell?, q3]) (by simp [World.cell?, q4])
    (HRX.out.keep hS0) (HRY.out.keep hS0)
    (fun k W => ScalI w1.heap.size bb (w1.heap.size + 1 + 1) W0 (((xs.zip ys).take k).foldl lsStep (-1, (F, 0))) W)
    (fun s W W' row h hg hr => h.cl hg hr) ?h0 ?a1 ?assign ?body ?done
  case assign =>
    intro l x y W K hK
    gi_wp2
    exact hK
  case h0 =>
    intro o o' ho ho'
    have hb2 : Below W0.heap.size W0 ((W0.alloc o).alloc o') := ((Below.refl _ _).alloc (Nat.le_refl _) _).alloc (by simp) _
    have hA : ∀ j, Away bb W0 j → Away bb ((W0.alloc o).alloc o') j := fun j hj => ((FrB.of_below hBW hb2).keep j hj).1
    have hcl : ∀ j, j < W0.heap.size → ((W0.alloc o).alloc o').heap[j]? = W0.heap[j]? := fun j hj => hb2.block j hj
    refine ⟨⟨(hcl _ (by omega)).trans q0, hA _ hM0.away, hBW.below hb2⟩, ⟨hA _ (hnew 2 (by omega)), by omega⟩, ?_, ?_,
      ⟨⟨hBW.away_new hb2 (by omega) (by simp only [World.size_alloc]; omega), by omega⟩, ⟨hBW.away_new hb2 (by omega) (by simp only [World.size_alloc]; omega), by omega⟩⟩, ?_⟩
    · simp only [World.cell?, hcl (w1.heap.size + 1 + 1) (by omega), q2]; rfl
    · simp only [World.frozen?, hcl (w1.heap.size + 1 + 1) (by omega), q2]; rfl
    · exact Fr.of_below hb2 fun j hj => ⟨hj.1.1.size, ⟨hA j hj.1.1, hj.1.2⟩, hj.2⟩
  case body =>
    intro l k hk hk' W hI
    have hbxk := HBX.out _ (List.getElem_mem hk)
    have hbyk := HBY.out _ (List.getElem_mem hk')
    have hz : k < (xs.zip ys).length := by rw [List.length_zip]; omega
    have hok := scal_ok lsStep lsStep_bd ((xs.zip ys).take k) (fun z hz => by
      have := List.of_mem_zip (List.mem_of_mem_take hz)
      exact ⟨HBX.out _ this.1, HBY.out _ this.2⟩) (-1, (F, 0)) hv (by unfold Bd; omega)
    have hsnoc : ((xs.zip ys).take (k + 1)).foldl lsStep (-1, (F, 0)) = lsStep (((xs.zip ys).take k).foldl lsStep (-1, (F, 0))) (xs[k], ys[k]) := by
      rw [List.take_succ_eq_append_getElem hz, List.foldl_append, List.getElem_zip]; rfl
    rw [hsnoc]
    clear hsnoc
    try dsimp only
    generalize xs[k] = x at *
    generalize ys[k] = y at *
    generalize ((xs.zip ys).take k).foldl lsStep (-1, (F, 0)) = st at *
    obtain ⟨hM, had, hc, hcf, hlp, hfr⟩ := hI.cl (W' := W.drew) (row := none) ⟨rfl, rfl, rfl, Nat.le_refl _, fun _ _ _ => rfl⟩ (fun r e => by cases e)
    have km := hfr.keep (w1.heap.size + 1) ⟨⟨hnew 1 (by omega), by omega⟩, by omega⟩
    have cm : W.drew.cell? ⟨w1.heap.size + 1, 0, none⟩ = some (.pointer (some ⟨w1.heap.size, 0, none⟩)) := by simp only [World.cell?, km.2, q1]; rfl
    have hbd0 := hok.2
    have hcall := mxor_any w1.heap.size bb st.2 x y W.drew hM hbxk hbyk
    have HCALL := hid hcall; clear hcall
    have hbd1 := mkM_bd (g := fun F => xorM F x y) (s := st.2) (xorM_bd _ _ _ hM.b.vars hbxk hbyk)
    have hst : lsStep st (x, y) = mkM (fun F => muxM F (mkM (fun F => xorM F x y) st.2).1 y st.1) (mkM (fun F => xorM F x y) st.2).2 := rfl
    generalize hR : mkM (fun F => xorM F x y) st.2 = r at *
    have hmo : Try.prog.follows .mixedOrders = true := by kernel_rfl
    have hFa : ∀ f, (Fence.wide.inRound l).fn f := fun _ => trivial
    have hS : (fun W' : World => W'.cell? ⟨w1.heap.size + 1 + 1, 0, none⟩ = some (.int .i64 st.1) ∧ W'.cell? ⟨w1.heap.size + 1, 0, none⟩ = some (.pointer (some ⟨w1.heap.size, 0, none⟩))) W.drew := ⟨hc, cm⟩
    gi_wp2_with fail
    refine wpIn_region_HI (fun W' : World => W'.cell? ⟨w1.heap.size + 1 + 1, 0, none⟩ = some (.int .i64 st.1) ∧ W'.cell? ⟨w1.heap.size + 1, 0, none⟩ = some (.pointer (some ⟨w1.heap.size, 0, none⟩))) 8 hmo ?_
    simp only [List.size_toArray, List.length_cons, List.length_nil, Nat.reduceAdd]
    refine wpHI_take (v := ?v0) 0 hFa rfl (by kernel_rfl) (fun _ _ _ h => h) (Or.inl ⟨by rfl, ?y0⟩) hS ?r0
    case y0 => (intro w' hS'; obtain ⟨s1, s2⟩ := hS'; go_simp; try rfl)
    simp only [Act.put, List.setIfInBounds_toArray, List.set_cons_zero, List.set_cons_succ]
    refine wpHI_take (v := ?v1) 1 hFa rfl (by kernel_rfl) (fun _ _ _ h => h) (Or.inl ⟨by rfl, ?y1⟩) hS ?r1
    case y1 => (intro w' hS'; obtain ⟨s1, s2⟩ := hS'; go_simp; try rfl)
    simp only [Act.put, List.setIfInBounds_toArray, List.set_cons_zero, List.set_cons_succ]
    refine wpHI_take (v := ?v2) 2 hFa rfl (by kernel_rfl) (fun _ _ _ h => h) (Or.inl ⟨by rfl, ?y2⟩) hS ?r2
    case y2 => (intro w' hS'; obtain ⟨s1, s2⟩ := hS'; go_simp; try rfl)
    simp only [Act.put, List.setIfInBounds_toArray, List.set_cons_zero, List.set_cons_succ]
    refine wpHI_take (v := ?v3) 3 hFa rfl (by kernel_rfl) (fun _ _ _ h => h) (Or.inl ⟨by rfl, ?y3⟩) hS ?r3
    case y3 => (intro w' hS'; obtain ⟨s1, s2⟩ := hS'; go_simp; try rfl)
    simp only [Act.put, List.setIfInBounds_toArray, List.set_cons_zero, List.set_cons_succ]
    refine wpHI_take (v := ?v5) 5 hFa rfl (by kernel_rfl) (fun _ _ _ h => h) (Or.inl ⟨by rfl, ?y5⟩) hS ?r5
    case y5 => (intro w' hS'; obtain ⟨s1, s2⟩ := hS'; go_simp; try rfl)
    simp only [Act.put, List.setIfInBounds_toArray, List.set_cons_zero, List.set_cons_succ]
    refine wpHI_take (v := ?v6) 6 hFa rfl (by kernel_rfl) (fun _ _ _ h => h) (Or.inl ⟨by rfl, ?y6⟩) hS ?r6
    case y6 => (intro w' hS'; obtain ⟨s1, s2⟩ := hS'; go_simp; try rfl)
    simp only [Act.put, List.setIfInBounds_toArray, List.set_cons_zero, List.set_cons_succ]
    refine wpHI_only 4 (by kernel_rfl) rfl ?_
    intro K hK
    go_simp
    refine (CallsIn.inRound l (callsIn_wide.2 HCALL.out)).mono ?_
    rintro e W2 ⟨rfl, hM2, hfr2⟩
    have ad2 := (hfr2.keep _ had).1
    have hc2 := (hfr2.cell (i := 0) had).trans hc
    have hcf2 := (hfr2.frozen (i := 0) had).trans hcf
    have cm2 := (hfr2.cell (i := 0) km.1.1).trans cm
    have hcall2 := mmux_any w1.heap.size bb r.2 r.1 y st.1 W2 hM2 hbd1 hbyk hbd0
    generalize hR2 : mkM (fun F => muxM F r.1 y st.1) r.2 = r2 at *
    have HCALL2 := hid hcall2; clear hcall2
    have HST := hid hst; clear hst
    refine hK _ _ (.inr ⟨hc2, cm2⟩) ?_
    clear hK K
    refine wpHI_only 7 (by kernel_rfl) rfl ?_
    intro K hK
    go_simp
    refine (CallsIn.inRound l (callsIn_wide.2 HCALL2.out)).mono ?_
    rintro e W3 ⟨rfl, hM3, hfr3⟩
    have ad3 := (hfr3.keep _ ad2).1
    have hc3 := (hfr3.cell (i := 0) ad2).trans hc2
    have hcf3 := (hfr3.frozen (i := 0) ad2).trans hcf2
    have cm3 := (hfr3.cell (i := 0) (hfr2.keep _ km.1.1).1).trans cm2
    refine hK _ _ (.inr ⟨hc3, cm3⟩) ?_
    clear hK K
    refine wpHI_only 8 (by kernel_rfl) rfl ?_
    intro K hK
    go_simp
    refine hK _ _ (.inl rfl) ?_
    clear hK K
    refine wpHI_done (by kernel_rfl) ?_ _
    gi_wp2
    rw [HST.out]
    obtain ⟨g1, g2, g3⟩ := hM3.far ad3 0 (Value.int .i64 r2.1)
    have hstep : ∀ j, AwayM w1.heap.size bb W.drew j → j ≠ w1.heap.size + 1 + 1 →
        AwayM w1.heap.size bb (W3.setCell ⟨w1.heap.size + 1 + 1, 0, none⟩ (Value.int .i64 r2.1)) j ∧ (W3.setCell ⟨w1.heap.size + 1 + 1, 0, none⟩ (Value.int .i64 r2.1)).heap[j]? = W.drew.heap[j]? := fun j hj h2 => by
      obtain ⟨k1, k2⟩ := hfr2.keep j hj
      obtain ⟨k3, k4⟩ := hfr3.keep j k1
      obtain ⟨k5, k6⟩ := g2.keep j ⟨k3, h2⟩
      exact ⟨k5, k6.trans (k4.trans k2)⟩
    refine ⟨⟨(hstep _ hlp.1 (by omega)).2, (hstep _ hlp.2 (by omega)).2⟩, fun j hj => (hstep j (hfr.keep j hj).1.1 hj.2).2, ?_⟩
    refine ⟨g1, g3 _ ad3, World.cell?_setCell_same (a := ⟨w1.heap.size + 1 + 1, 0, none⟩) (v := Value.int .i64 r2.1) _ hc3, ?_, ⟨(hstep _ hlp.1 (by omega)).1, (hstep _ hlp.2 (by omega)).1⟩, ?_⟩
    · rw [World.frozen?_setCell]; exact hcf3
    · exact ⟨g2.os.trans (hfr3.os.trans (hfr2.os.trans hfr.os)), g2.tape.trans (hfr3.tape.trans (hfr2.tape.trans hfr.tape)), g2.output.trans (hfr3.output.trans (hfr2.output.trans hfr.output)),
        Nat.le_trans hfr.size (Nat.le_trans hfr2.size (Nat.le_trans hfr3.size g2.size)), fun j hj => by
          obtain ⟨k1, k2⟩ := hfr.keep j hj
          obtain ⟨k3, k4⟩ := hstep j k1.1 k1.2
          exact ⟨⟨k3, k1.2⟩, k4.trans k2⟩⟩
  case done =>
    intro D W hD hI hdef
    rw [show (xs.zip ys).take xs.length = xs.zip ys from List.take_of_length_le (by rw [List.length_zip]; omega)] at hI
    have hok := scal_ok lsStep lsStep_bd (xs.zip ys) (fun z hz => by
      have := List.of_mem_zip hz
      exact ⟨HBX.out _ this.1, HBY.out _ this.2⟩) (-1, (F, 0)) hv (by unfold Bd; omega)
    generalize (xs.zip ys).foldl lsStep (-1, (F, 0)) = st at *
    obtain ⟨hM, had, hc, hcf, hlp, hfr⟩ := hI
    have km := hfr.keep (w1.heap.size + 1) ⟨⟨hnew 1 (by omega), by omega⟩, by omega⟩
    have cm : W.cell? ⟨w1.heap.size + 1, 0, none⟩ = some (.pointer (some ⟨w1.heap.size, 0, none⟩)) := by simp only [World.cell?, km.2, q1]; rfl
    have c1 : W.cell? ⟨w1.heap.size, 1, none⟩ = some (.int .i64 st.2.2) := by simp only [World.cell?, hM.blk]; rfl
    have hbst := hok.2
    unfold Bd at hbst
    have hone := one_any w1.heap.size st.2.2 (st.1) W c1
    have hlm := litM_eq (st.1) st.2
    generalize (if st.2.2 = 0 then st.1 else 0) = q at *
    have HONE := hid hone; clear hone
    have HLM := hid hlm; clear hlm
    clear hok
    gi_wp2_with fail
    first | refine (callsIn_wide.2 HONE.out).mono ?_ | (refine ⟨trivial, ?_⟩; refine (callsIn_wide.2 HONE.out).mono ?_)
    rintro e W3 ⟨rfl, hb3⟩
    gi_wp2_with fail
    have hdef3 : W3.heap[D]? = some (.deferred (some [])) := (hb3.block D (Array.getElem?_eq_some_iff.1 hdef).1).trans hdef
    refine ⟨by simp, .inl ⟨_, _, rfl, run_takeDeferred hdef3, ?_⟩⟩
    have hDlt := (Array.getElem?_eq_some_iff.1 hdef).1
    have hg5 : W3.grownBy (W3.putObj D (.deferred none)) (some D) := grownBy_putObj' W3 D _
    have hcl : Cl W (W3.putObj D (.deferred none)) := by
      have h1 : Cl W W3 := Cl.of (row := none) ⟨hb3.os, hb3.tape, hb3.output, hb3.size, fun k hk _ => hb3.block k hk⟩ (fun r e => by cases e)
      have h2 : Cl W3 (W3.putObj D (.deferred none)) := Cl.of hg5 (fun r e => by cases e; exact ⟨_, hdef3, rfl⟩)
      exact ⟨h2.os.trans h1.os, h2.tape.trans h1.tape, h2.output.trans h1.output, Nat.le_trans h1.size h2.size, fun k c t fz hk => h2.keep _ _ _ _ (h1.keep _ _ _ _ hk)⟩
    obtain ⟨hM5, hA5⟩ := hcl.isM hM
    have hfr5 : FrB bb w (W3.putObj D (.deferred none)) := ⟨hcl.os.trans (hfr.os.trans hfw.os), hcl.tape.trans (hfr.tape.trans hfw.tape), hcl.output.trans (hfr.output.trans hfw.output),
      Nat.le_trans hfw.size (Nat.le_trans hfr.size hcl.size), fun j hj => by
        have hjl := hj.size
        obtain ⟨k1, k2⟩ := hfw.keep j hj
        obtain ⟨k3, k4⟩ := hfr.keep j ⟨⟨k1, by omega⟩, by omega⟩
        exact ⟨(hA5 _ k3.1).1, (hg5.block j (by have := hb3.size; have := k3.1.1.size; omega) (fun e => by injection e with e; omega)).trans ((hb3.block j k3.1.1.size).trans (k4.trans k2))⟩⟩
    refine ⟨.tuple #[.int .i64 q, .int .i64 st.2.2], by simp [results, Try.results32, go_sem], ?_⟩
    rw [HLM.out]
    exact ⟨rfl, hM5.b, hfr5⟩

set_option maxRecDepth 100000 in
set_option maxHeartbeats 3200000 in
theorem less_s (bb : Nat) (F : Form) (xs ys : List Int) (px py : Option Addr) (cx cy : Nat) (w : World) (hB : IsB w bb F) (hx : Ints (Away bb w) w (.slice px xs.length cx) xs) (hy : Ints (Away bb w) w (.slice py ys.length cy) ys)
    (hlit : ∀ l ∈ [xs, ys], ∀ x ∈ l, -9223372036854775807 ≤ x ∧ x ≤ 9223372036854775807) (hc0 : checkM F [] [xs, ys] = 0) (hrx : RowR (Away bb w) w px (xs.map (Value.int .i64))) (hry : RowR (Away bb w) w py (ys.map (Value.int .i64))) :
    Calls Try.prog 32 #[.pointer (some ⟨bb, 0, none⟩), .slice px xs.length cx, .slice py ys.length cy, .bool true] w (GatePost bb w (lessM F xs ys true)) := by
  have hck := check2 bb F xs ys px py cx cy w hB hx hy hlit
  have hBl := hB.lt
  unfold lessM
  rw [if_pos hc0]
  rw [hc0] at hck
  obtain ⟨hl1, hl64, hyl, -, hkx, hky⟩ := check_two hc0
  have hv := hB.vars
  have HX := hid hkx
  have HY := hid hky
  have HBX := hid (hasAll_bd hv hkx)
  have HBY := hid (hasAll_bd hv hky)
  have HYL := hid hyl
  have HCK := hid hck
  have HR := hid (And.intro hrx hry)
  clear hck hc0 hrx hry hx hy hB hlit hkx hky hyl
  simp only [if_true]
  generalize hxs2 : turnM xs = xs2
  generalize hys2 : turnM ys = ys2
  have HX2 := hid hxs2; have HY2 := hid hys2; clear hxs2 hys2
  refine (callsIn_wide (n := 9)).1 ?_
  refine callsIn_of_wp_marks Try.func32 rfl trivial ?_ rfl
  simp only [Try.ntmps32, List.size_toArray, List.length_cons, List.length_nil, Nat.reduceAdd, Nat.reduceSub, Array.replicate_succ, Array.replicate_zero, List.push_toArray, List.append_toArray, List.nil_append, List.cons_append]
  gi_wp2_with fail
  refine ⟨trivial, ?_⟩
  refine (callsIn_wide.2 HCK.out).mono ?_
  rintro e w0 ⟨rfl, hB0, hf0⟩
  have HRX0 := hid (HR.out.1.fr hf0)
  have HRY0 := hid (HR.out.2.fr hf0)
  have HB0 := hid hB0; have HF0 := hid hf0
  have TK : True := trivial
  have hyl64 : ys.length ≤ 64 := by have := HYL.out; omega
  have hyl1 : 1 ≤ ys.length := by have := HYL.out; omega
  clear hB0 hf0 HCK HR
  gi_wp2_with (first
    | (gi_at_builtin; have _t := TK; refine wpListIn_app (fun _ => trivial) rfl (.const (.slice none 0 0)) (.tmp 24) 23 rfl w0.heap.size 3 (.int .i64 0) 8 Try.underlying23 info_int rfl _ 0 [] rfl (World.ownsRow_nil _ _ _ _) px xs.length cx _ rfl (by simp) HRX0.out (ints_one xs) (by omega) (by unfold maxLen; omega) (Nat.le_refl _) ?_; intro v1 W1 hown1 hg1 hat1; have HO1 := hid hown1; have HG1 := hid hg1; clear hown1 hg1 hat1 TK; obtain ⟨p1, c1, rfl⟩ := own_slice HO1.out)
    | (gi_at_builtin; refine wpListIn_app (fun _ => trivial) rfl (.const (.slice none 0 0)) (.tmp 26) 23 rfl w0.heap.size 3 (.int .i64 0) 8 Try.underlying23 info_int rfl _ 0 [] rfl (World.ownsRow_nil _ _ _ _) py ys.length cy _ rfl (by simp) (HRY0.out.keep (R' := fun _ => True) (fun k hk => ⟨trivial, HG1.out.block k hk.size (by intro e; cases e)⟩)) (ints_one ys) (by omega) (by unfold maxLen; omega) HG1.out.size ?_; intro v2 W2 hown2 hg2 hat2; have HO2 := hid hown2; have HG2 := hid hg2; have HAT2 := hid hat2; clear hown2 hg2 hat2; obtain ⟨p2, c2, rfl⟩ := own_slice HO2.out))
  obtain ⟨g1, c1', e1, hg1b, hg1l, hc1, hf1⟩ := owns_open HO1.out (by omega)
  obtain ⟨g2, c2', e2, hg2b, hg2l, hc2, hf2⟩ := owns_open HO2.out (by omega)
  have ep1 : p1 = some ⟨g1, 0, none⟩ := by injection e1
  have ep2 : p2 = some ⟨g2, 0, none⟩ := by injection e2
  subst ep1 ep2
  have hg2e : g2 = W1.heap.size := by
    rcases HAT2.out with h | h
    · cases h
    · injection h
  have hne : g1 ≠ g2 := by omega
  simp only [List.nil_append, Nat.zero_add] at hc1 hc2 hf1 hf2
  have r1 : ∀ j (hj : j < (xs.map (Value.int .i64)).length), W2.cell? ⟨g1, j, none⟩ = some (xs.map (Value.int .i64))[j] := fun j hj => HG2.out.cell (hc1 j hj) (by intro e; cases e)
  have f1 : ∀ j, j < xs.length → W2.frozen? ⟨g1, j, none⟩ = false := fun j hj => (HG2.out.frozen_far ⟨g1, j, none⟩ hg1l (by intro e; cases e)).trans (hf1 j hj)
  have k1 : W2.cell? ⟨g1, xs.length - 1, none⟩ = some (.int .i64 (xs.getD (xs.length - 1) 0)) := by
    have e : xs.getD (xs.length - 1) 0 = xs[xs.length - 1] := getD_lt _ _ _ (by omega)
    rw [r1 (xs.length - 1) (by rw [List.length_map]; omega), e, List.getElem_map]
  have k2 : W2.cell? ⟨g2, ys.length - 1, none⟩ = some (.int .i64 (ys.getD (ys.length - 1) 0)) := by
    have e : ys.getD (ys.length - 1) 0 = ys[ys.length - 1] := getD_lt _ _ _ (by omega)
    rw [hc2 (ys.length - 1) (by rw [List.length_map]; omega), e, List.getElem_map]
  have b1 : Bd (xs.getD (xs.length - 1) 0) := by rw [getD_lt _ _ _ (by omega : xs.length - 1 < xs.length)]; exact HBX.out _ (List.getElem_mem _)
  have b2 : Bd (ys.getD (ys.length - 1) 0) := by rw [getD_lt _ _ _ (by omega : ys.length - 1 < ys.length)]; exact HBY.out _ (List.getElem_mem _)
  unfold Bd at b1 b2
  have m1 := f1 (xs.length - 1) (by omega)
  have m2 := hf2 (ys.length - 1) (by omega)
  have R1 := hid r1; have FF1 := hid f1; have HC2 := hid hc2; have HF2 := hid hf2; have HG2E := hid hg2e
  clear r1 f1 hc2 hf2 hc1 hf1 e1 e2 hg2e
  generalize hq1 : xs.getD (xs.length - 1) 0 = q1 at *
  generalize hq2 : ys.getD (ys.length - 1) 0 = q2 at *
  have HQ1 := hid hq1; have HQ2 := hid hq2; clear hq1 hq2
  have hmo : Try.prog.follows .mixedOrders = true := by kernel_rfl
  have hFa : ∀ f, Fence.wide.fn f := fun _ => trivial
  have k1' : W2.drew.cell? ⟨g1, xs.length - 1, none⟩ = some (.int .i64 q1) := k1
  have k2' : W2.drew.cell? ⟨g2, ys.length - 1, none⟩ = some (.int .i64 q2) := k2
  have hS : (fun W' : World => W'.cell? ⟨g1, xs.length - 1, none⟩ = some (.int .i64 q1) ∧ W'.cell? ⟨g2, ys.length - 1, none⟩ = some (.int .i64 q2)) W2.drew := ⟨k1', k2'⟩
  have wx : IntKind.i64.wrap ((xs.length : Int) - 1) = (xs.length : Int) - 1 := IntWalk.i64_in _ (by omega)
  have wy : IntKind.i64.wrap ((ys.length : Int) - 1) = (ys.length : Int) - 1 := IntWalk.i64_in _ (by omega)
  have tx : ((xs.length : Int) - 1).toNat = xs.length - 1 := by omega
  have ty : ((ys.length : Int) - 1).toNat = ys.length - 1 := by omega
  have zx : 0 ≤ (xs.length : Int) - 1 := by omega
  have zy : 0 ≤ (ys.length : Int) - 1 := by omega
  have lx : (xs.length : Int) - 1 < xs.length := by omega
  have ly : (ys.length : Int) - 1 < ys.length := by omega
  have ix : (1 : Int) ≤ xs.length := by omega
  have iy : (1 : Int) ≤ ys.length := by omega
  have nq1 : IntKind.i64.wrap (-q1) = -q1 := IntWalk.i64_in _ (by omega)
  have nq2 : IntKind.i64.wrap (-q2) = -q2 := IntWalk.i64_in _ (by omega)
  refine wpIn_onlyN ?_
  refine wpIn_region_HJ (fun W' : World => W'.cell? ⟨g1, xs.length - 1, none⟩ = some (.int .i64 q1) ∧ W'.cell? ⟨g2, ys.length - 1, none⟩ = some (.int .i64 q2)) 23 hmo ?_
  simp only [List.size_toArray, List.length_cons, List.length_nil, Nat.reduceAdd]
  refine wpHJ_pure (v := ?sv0) 0 hFa rfl (by kernel_rfl) (fun _ _ _ h => h.elim) (Or.inl ⟨by rfl, ?sy0⟩) (.inr hS) ?sr0
  case sy0 => (intro w' _; go_simp; try rfl)
  simp only [Act.put, List.setIfInBounds_toArray, List.set_cons_zero, List.set_cons_succ]
  refine wpHJ_pure (v := ?sv1) 1 hFa rfl (by kernel_rfl) (fun _ _ _ h => h.elim) (Or.inl ⟨by rfl, ?sy1⟩) (.inr hS) ?sr1
  case sy1 => (intro w' _; go_simp; try rfl)
  simp only [Act.put, List.setIfInBounds_toArray, List.set_cons_zero, List.set_cons_succ]
  refine wpHJ_pure (v := ?sv2) 2 hFa rfl (by kernel_rfl) (fun _ _ _ h => h.elim) (Or.inl ⟨by rfl, ?sy2⟩) (.inr hS) ?sr2
  case sy2 => (intro w' _; go_simp; try rfl)
  simp only [Act.put, List.setIfInBounds_toArray, List.set_cons_zero, List.set_cons_succ]
  refine wpHJ_pure (v := ?sv3) 3 hFa rfl (by kernel_rfl) (fun _ _ _ h => h.elim) (Or.inl ⟨by rfl, ?sy3⟩) (.inr hS) ?sr3
  case sy3 => (intro w' _; go_simp; try rfl)
  simp only [Act.put, List.setIfInBounds_toArray, List.set_cons_zero, List.set_cons_succ]
  refine wpHJ_pure (v := ?sv4) 4 hFa rfl (by kernel_rfl) (fun _ _ _ h => h.elim) (Or.inl ⟨by rfl, ?sy4⟩) (.inr hS) ?sr4
  case sy4 => (intro w' _; go_simp; try rfl)
  simp only [Act.put, List.setIfInBounds_toArray, List.set_cons_zero, List.set_cons_succ]
  refine wpHJ_pure (v := ?sv5) 5 hFa rfl (by kernel_rfl) (fun _ _ _ h => h.elim) (Or.inl ⟨by rfl, ?sy5⟩) (.inr hS) ?sr5
  case sy5 => (intro w' _; go_simp; try rfl)
  simp only [Act.put, List.setIfInBounds_toArray, List.set_cons_zero, List.set_cons_succ]
  refine wpHJ_pure (v := ?sv6) 6 hFa rfl (by kernel_rfl) (fun _ _ _ h => h.elim) (Or.inl ⟨by rfl, ?sy6⟩) (.inr hS) ?sr6
  case sy6 => (intro w' _; go_simp; try rfl)
  simp only [Act.put, List.setIfInBounds_toArray, List.set_cons_zero, List.set_cons_succ]
  refine wpHJ_pure (v := ?sv7) 7 hFa rfl (by kernel_rfl) (fun _ _ _ h => h.elim) (Or.inl ⟨by rfl, ?sy7⟩) (.inr hS) ?sr7
  case sy7 => (intro w' _; go_simp; try rfl)
  simp only [Act.put, List.setIfInBounds_toArray, List.set_cons_zero, List.set_cons_succ]
  refine wpHJ_pure (v := ?sv8) 8 hFa rfl (by kernel_rfl) (fun _ _ _ h => h.elim) (Or.inl ⟨by rfl, ?sy8⟩) (.inr hS) ?sr8
  case sy8 => (intro w' _; go_simp; try rfl)
  simp only [Act.put, List.setIfInBounds_toArray, List.set_cons_zero, List.set_cons_succ]
  refine wpHJ_pure (v := ?sv9) 9 hFa rfl (by kernel_rfl) (fun _ _ _ h => h.elim) (Or.inl ⟨by rfl, ?sy9⟩) (.inr hS) ?sr9
  case sy9 => (intro w' _; go_simp; try rfl)
  simp only [Act.put, List.setIfInBounds_toArray, List.set_cons_zero, List.set_cons_succ]
  refine wpHJ_pure (v := ?sv10) 10 hFa rfl (by kernel_rfl) (fun _ _ _ h => h.elim) (Or.inl ⟨by rfl, ?sy10⟩) (.inr hS) ?sr10
  case sy10 => (intro w' _; go_simp; try rfl)
  simp only [Act.put, List.setIfInBounds_toArray, List.set_cons_zero, List.set_cons_succ]
  refine wpHJ_pure (v := ?sv11) 11 hFa rfl (by kernel_rfl) (fun _ _ _ h => h.elim) (Or.inl ⟨by rfl, ?sy11⟩) (.inr hS) ?sr11
  case sy11 => (intro w' _; go_simp; try rfl)
  simp only [Act.put, List.setIfInBounds_toArray, List.set_cons_zero, List.set_cons_succ]
  refine wpHJ_pure (v := ?sv12) 12 hFa rfl (by kernel_rfl) (fun _ _ _ h => h.elim) (Or.inl ⟨by rfl, ?sy12⟩) (.inr hS) ?sr12
  case sy12 => (intro w' _; go_simp; try rfl)
  simp only [Act.put, List.setIfInBounds_toArray, List.set_cons_zero, List.set_cons_succ]
  refine wpHJ_take (v := ?sv13) 13 hFa rfl (by kernel_rfl) (fun _ _ _ h => h.elim) (Or.inl ⟨by rfl, ?sy13⟩) hS ?sr13
  case sy13 => (intro w' hS'; obtain ⟨s1, s2⟩ := hS'; go_simp; try rfl)
  simp only [Act.put, List.setIfInBounds_toArray, List.set_cons_zero, List.set_cons_succ]
  refine wpHJ_pure (v := ?sv14) 14 hFa rfl (by kernel_rfl) (fun _ _ _ h => h.elim) (Or.inl ⟨by rfl, ?sy14⟩) (.inr hS) ?sr14
  case sy14 => (intro w' _; go_simp; try rfl)
  simp only [Act.put, List.setIfInBounds_toArray, List.set_cons_zero, List.set_cons_succ]
  refine wpHJ_pure (v := ?sv15) 15 hFa rfl (by kernel_rfl) (fun _ _ _ h => h.elim) (Or.inl ⟨by rfl, ?sy15⟩) (.inr hS) ?sr15
  case sy15 => (intro w' _; go_simp; try rfl)
  simp only [Act.put, List.setIfInBounds_toArray, List.set_cons_zero, List.set_cons_succ]
  refine wpHJ_pure (v := ?sv16) 16 hFa rfl (by kernel_rfl) (fun _ _ _ h => h.elim) (Or.inl ⟨by rfl, ?sy16⟩) (.inr hS) ?sr16
  case sy16 => (intro w' _; go_simp; try rfl)
  simp only [Act.put, List.setIfInBounds_toArray, List.set_cons_zero, List.set_cons_succ]
  refine wpHJ_pure (v := ?sv17) 17 hFa rfl (by kernel_rfl) (fun _ _ _ h => h.elim) (Or.inl ⟨by rfl, ?sy17⟩) (.inr hS) ?sr17
  case sy17 => (intro w' _; go_simp; try rfl)
  simp only [Act.put, List.setIfInBounds_toArray, List.set_cons_zero, List.set_cons_succ]
  refine wpHJ_pure (v := ?sv18) 18 hFa rfl (by kernel_rfl) (fun _ _ _ h => h.elim) (Or.inl ⟨by rfl, ?sy18⟩) (.inr hS) ?sr18
  case sy18 => (intro w' _; go_simp; try rfl)
  simp only [Act.put, List.setIfInBounds_toArray, List.set_cons_zero, List.set_cons_succ]
  refine wpHJ_pure (v := ?sv19) 19 hFa rfl (by kernel_rfl) (fun _ _ _ h => h.elim) (Or.inl ⟨by rfl, ?sy19⟩) (.inr hS) ?sr19
  case sy19 => (intro w' _; go_simp; try rfl)
  simp only [Act.put, List.setIfInBounds_toArray, List.set_cons_zero, List.set_cons_succ]
  refine wpHJ_take (v := ?sv20) 20 hFa rfl (by kernel_rfl) (fun _ _ _ h => h.elim) (Or.inl ⟨by rfl, ?sy20⟩) hS ?sr20
  case sy20 => (intro w' hS'; obtain ⟨s1, s2⟩ := hS'; go_simp; try rfl)
  simp only [Act.put, List.setIfInBounds_toArray, List.set_cons_zero, List.set_cons_succ]
  refine wpHJ_pure (v := ?sv21) 21 hFa rfl (by kernel_rfl) (fun _ _ _ h => h.elim) (Or.inl ⟨by rfl, ?sy21⟩) (.inr hS) ?sr21
  case sy21 => (intro w' _; go_simp; try rfl)
  simp only [Act.put, List.setIfInBounds_toArray, List.set_cons_zero, List.set_cons_succ]
  refine wpHJ_only 22 (by kernel_rfl) rfl ?_
  intro K hK
  go_simp
  refine hK _ _ (.inr (.inr hS)) ?_
  clear hK K
  have m1' : W2.drew.frozen? ⟨g1, xs.length - 1, none⟩ = false := m1
  have m2' : W2.drew.frozen? ⟨g2, ys.length - 1, none⟩ = false := m2
  refine wpHJ_only 23 (by kernel_rfl) rfl ?_
  intro K hK
  go_simp
  refine hK _ _ (.inl rfl) ?_
  clear hK K
  have k3 : (W2.drew.setCell ⟨g1, xs.length - 1, none⟩ (.int .i64 (-q1))).cell? ⟨g2, ys.length - 1, none⟩ = some (.int .i64 q2) := (World.cell?_of_block (a := ⟨g2, ys.length - 1, none⟩) (Below.heap_setCell _ _ _ _ (Ne.symm hne))).trans k2'
  have m3 : (W2.drew.setCell ⟨g1, xs.length - 1, none⟩ (.int .i64 (-q1))).frozen? ⟨g2, ys.length - 1, none⟩ = false := by rw [World.frozen?_setCell]; exact m2'
  refine wpHJ_only 24 (by kernel_rfl) rfl ?_
  intro K hK
  go_simp
  refine hK _ _ (.inr (.inl (by kernel_rfl))) ?_
  clear hK K
  refine wpHJ_only 25 (by kernel_rfl) rfl ?_
  intro K hK
  go_simp
  refine hK _ _ (.inr (.inl (by kernel_rfl))) ?_
  clear hK K
  refine wpHJ_done (by kernel_rfl) ?_ _
  clear wx wy tx ty zx zy lx ly nq1 nq2 ix iy
  have hbel : Below w0.heap.size w0 W2.drew := ⟨HG2.out.os.trans HG1.out.os, HG2.out.tape.trans HG1.out.tape, HG2.out.output.trans HG1.out.output, Nat.le_trans HG1.out.size HG2.out.size, fun k hk => (HG2.out.block k (Nat.lt_of_lt_of_le hk HG1.out.size) (by intro e; cases e)).trans (HG1.out.block k hk (by intro e; cases e))⟩
  have hBd := HB0.out.below hbel
  have hsz2 := HG2.out.size
  have hsz0 := HF0.out.size
  have A1 : Away bb W2.drew g1 := HB0.out.away_new hbel hg1b (by show g1 < W2.heap.size; omega)
  have A2 : Away bb W2.drew g2 := HB0.out.away_new hbel hg2b (by show g2 < W2.heap.size; omega)
  obtain ⟨n1, n2, n3⟩ := hBd.far A1 (xs.length - 1) (Value.int .i64 (-q1))
  obtain ⟨o1, o2, o3⟩ := n1.far (n3 _ A2) (ys.length - 1) (Value.int .i64 (-q2))
  have hf2 : FrB bb w W2.drew := HF0.out.trans (FrB.of_below HB0.out hbel)
  have hf3 : FrB bb w ((W2.drew.setCell ⟨g1, xs.length - 1, none⟩ (.int .i64 (-q1))).setCell ⟨g2, ys.length - 1, none⟩ (.int .i64 (-q2))) :=
    ⟨o2.os.trans (n2.os.trans hf2.os), o2.tape.trans (n2.tape.trans hf2.tape), o2.output.trans (n2.output.trans hf2.output), Nat.le_trans hf2.size (Nat.le_trans n2.size o2.size), fun j hj => by
      obtain ⟨a, b⟩ := hf2.keep j hj
      have := hj.size
      exact ⟨o3 _ (n3 _ a), (o2.keep j ⟨n3 _ a, by omega⟩).2.trans ((n2.keep j ⟨a, by omega⟩).2.trans b)⟩⟩
  have hrx2 : RowR (Away bb ((W2.drew.setCell ⟨g1, xs.length - 1, none⟩ (.int .i64 (-q1))).setCell ⟨g2, ys.length - 1, none⟩ (.int .i64 (-q2)))) ((W2.drew.setCell ⟨g1, xs.length - 1, none⟩ (.int .i64 (-q1))).setCell ⟨g2, ys.length - 1, none⟩ (.int .i64 (-q2))) (some ⟨g1, 0, none⟩) (xs2.map (Value.int .i64)) := by
    rw [← HX2.out]
    refine row_turn (w := W2) rfl hl1 R1.out (o3 _ (n3 _ A1)) ?_ fun j hj => ?_
    · rw [HQ1.out, cell_far _ _ _ _ _ _ (Ne.symm hne)]; exact cell_same _ k1'
    · rw [cell_far _ _ _ _ _ _ (Ne.symm hne), cell_other _ _ _ _ _ (Ne.symm hj)]; rfl
  have hry2 : RowR (Away bb ((W2.drew.setCell ⟨g1, xs.length - 1, none⟩ (.int .i64 (-q1))).setCell ⟨g2, ys.length - 1, none⟩ (.int .i64 (-q2)))) ((W2.drew.setCell ⟨g1, xs.length - 1, none⟩ (.int .i64 (-q1))).setCell ⟨g2, ys.length - 1, none⟩ (.int .i64 (-q2))) (some ⟨g2, 0, none⟩) (ys2.map (Value.int .i64)) := by
    rw [← HY2.out]
    refine row_turn (w := W2) rfl hyl1 HC2.out (o3 _ (n3 _ A2)) ?_ fun j hj => ?_
    · rw [HQ2.out]; exact cell_same _ k3
    · rw [cell_other _ _ _ _ _ (Ne.symm hj), cell_far _ _ _ _ _ _ hne]; rfl
  have hxl2 : xs.length = xs2.length := by rw [← HX2.out, turn_len]
  have hyl2 : ys.length = ys2.length := by rw [← HY2.out, turn_len]
  have HBXn := HBX; have HBYn := HBY; have HYLn := HYL
  clear HBX HBY HYL
  have HBX : Hid (∀ x ∈ xs2, Bd x) := hid (by rw [← HX2.out]; exact fun x hx => Bd.lit hv (turn_ok hl1 (hasAll_mem HX.out) x hx))
  have HBY : Hid (∀ x ∈ ys2, Bd x) := hid (by rw [← HY2.out]; exact fun x hx => Bd.lit hv (turn_ok hyl1 (hasAll_mem HY.out) x hx))
  have HYL : Hid (ys2.length = xs2.length) := hid (by have := HYLn.out; omega)
  have hl64' : xs2.length ≤ 64 := by omega
  have HB1 := hid o1; have HF1 := hid hf3; have HRX := hid hrx2; have HRY := hid hry2
  rename_i K0 HK0
  simp only [onlyN, Exit.then]
  generalize hw1 : World.drew _ = w1
  have hw1' : (W2.drew.setCell ⟨g1, xs.length - 1, none⟩ (.int .i64 (-q1))).setCell ⟨g2, ys.length - 1, none⟩ (.int .i64 (-q2)) = w1 := hw1
  rw [hw1'] at HB1 HF1 HRX HRY
  rw [hxl2, hyl2]
  clear hw1 hw1' hf3 hrx2 hry2 o1 o2 o3 n1 n2 n3 A1 A2 hBd hf2 hxl2 hyl2
  refine HK0 _ _ ?_
  clear HK0
  gi_wp2_with fail
  first | refine (callsIn_wide.2 (true_any _ _)).mono ?_ | (refine ⟨trivial, ?_⟩; refine (callsIn_wide.2 (true_any _ _)).mono ?_)
  rintro e w2 ⟨rfl, rfl⟩
  gi_wp2_with fail
  first | gi_at_call 91 | (refine ⟨trivial, ?_⟩; gi_at_call 91)
  refine (callsIn_wide.2 (callsIn_wide.1 (pairs_any _ _ _ _ _ _ _))).mono ?_
  rintro e w2 ⟨rfl, rfl⟩
  gi_wp2_with fail
  generalize hW0 : World.alloc _ _ = W0
  have hbW : Below w1.heap.size w1 W0 := by
    rw [← hW0]
    exact (((((Below.refl _ _).alloc (Nat.le_refl _) _).alloc (by simp only [World.size_alloc]; omega) _).alloc (by simp only [World.size_alloc]; omega) _).alloc (by simp only [World.size_alloc]; omega) _).alloc (by simp only [World.size_alloc]; omega) _
  have hsz : W0.heap.size = w1.heap.size + 5 := by rw [← hW0]; simp only [World.size_alloc]
  have q0 : W0.heap[w1.heap.size]? = some (.cells #[.pointer (some ⟨bb, 0, none⟩), .int .i64 0] 129 (0, 0)) := by rw [← hW0]; rw [heap_al, if_neg (by simp only [World.size_alloc]; omega)]; rw [heap_al, if_neg (by simp only [World.size_alloc]; omega)]; rw [heap_al, if_neg (by simp only [World.size_alloc]; omega)]; rw [heap_al, if_neg (by simp only [World.size_alloc]; omega)]; rw [heap_al, if_pos (by simp only [World.size_alloc])]
  have q1 : W0.heap[w1.heap.size + 1]? = some (.cells #[.pointer (some ⟨w1.heap.size, 0, none⟩)] 127 (0, 0)) := by rw [← hW0]; rw [heap_al, if_neg (by simp only [World.size_alloc]; omega)]; rw [heap_al, if_neg (by simp only [World.size_alloc]; omega)]; rw [heap_al, if_neg (by simp only [World.size_alloc]; omega)]; rw [heap_al, if_pos (by simp only [World.size_alloc])]
  have q2 : W0.heap[w1.heap.size + 1 + 1]? = some (.cells #[.int .i64 (-1)] 3 (0, 0)) := by rw [← hW0]; rw [heap_al, if_neg (by simp only [World.size_alloc]; omega)]; rw [heap_al, if_neg (by simp only [World.size_alloc]; omega)]; rw [heap_al, if_pos (by simp only [World.size_alloc])]
  have q3 : W0.heap[w1.heap.size + 1 + 1 + 1]? = some (.cells #[.slice (some ⟨g1, 0, none⟩) xs2.length c1] 23 (0, 0)) := by rw [← hW0]; rw [heap_al, if_neg (by simp only [World.size_alloc]; omega)]; rw [heap_al, if_pos (by simp only [World.size_alloc])]
  have q4 : W0.heap[w1.heap.size + 1 + 1 + 1 + 1]? = some (.cells #[.slice (some ⟨g2, 0, none⟩) ys2.length c2] 23 (0, 0)) := by rw [← hW0]; rw [heap_al, if_pos (by simp only [World.size_alloc])]
  clear hW0
  have hB1 := HB1.out
  have hBW := hB1.below hbW
  have hfW : FrB bb w1 W0 := FrB.of_below hB1 hbW
  have hfw := HF1.out.trans hfW
  have hws := HF1.out.size
  have hnew : ∀ i, i < 5 → Away bb W0 (w1.heap.size + i) := fun i hi => hB1.away_new hbW (by omega) (by omega)
  have hM0 : IsM W0 w1.heap.size bb (F, 0) := ⟨q0, hnew 0 (by omega), hBW⟩
  have hS0 : ∀ j, Away bb w1 j → (AwayM w1.heap.size bb W0 j ∧ j ≠ w1.heap.size + 1 + 1) ∧ W0.heap[j]? = w1.heap[j]? := fun j hj => by
    have := hj.size
    exact ⟨⟨⟨(hfW.keep j hj).1, by omega⟩, by omega⟩, (hfW.keep j hj).2⟩
  refine wp_range_pairs (w1.heap.size + 1 + 1 + 1) (w1.heap.size + 1 + 1 + 1 + 1) (fun j => AwayM w1.heap.size bb W0 j ∧ j ≠ w1.heap.size + 1 + 1) (some ⟨g1, 0, none⟩) (some ⟨g2, 0, none⟩) c1 c2 xs2 ys2 HYL.out (by omega) rfl rfl
    (fun k hk => hk.1.1.size) ⟨⟨hnew 3 (by omega), by omega⟩, by omega⟩ ⟨⟨hnew 4 (by omega), by omega⟩, by omega⟩ (by simp [World.cell?, q3]) (by simp [World.cell?, q4])
    (HRX.out.keep hS0) (HRY.out.keep hS0)
    (fun k W => ScalI w1.heap.size bb (w1.heap.size + 1 + 1) W0 (((xs2.zip ys2).take k).foldl lsStep (-1, (F, 0))) W)
    (fun s W W' row h hg hr => h.cl hg hr) ?h0 ?a1 ?assign ?body ?done
  case assign =>
    intro l x y W K hK
    gi_wp2
    exact hK
  case h0 =>
    intro o o' ho ho'
    have hb2 : Below W0.heap.size W0 ((W0.alloc o).alloc o') := ((Below.refl _ _).alloc (Nat.le_refl _) _).alloc (by simp) _
    have hA : ∀ j, Away bb W0 j → Away bb ((W0.alloc o).alloc o') j := fun j hj => ((FrB.of_below hBW hb2).keep j hj).1
    have hcl : ∀ j, j < W0.heap.size → ((W0.alloc o).alloc o').heap[j]? = W0.heap[j]? := fun j hj => hb2.block j hj
    refine ⟨⟨(hcl _ (by omega)).trans q0, hA _ hM0.away, hBW.below hb2⟩, ⟨hA _ (hnew 2 (by omega)), by omega⟩, ?_, ?_,
      ⟨⟨hBW.away_new hb2 (by omega) (by simp only [World.size_alloc]; omega), by omega⟩, ⟨hBW.away_new hb2 (by omega) (by simp only [World.size_alloc]; omega), by omega⟩⟩, ?_⟩
    · simp only [World.cell?, hcl (w1.heap.size + 1 + 1) (by omega), q2]; rfl
    · simp only [World.frozen?, hcl (w1.heap.size + 1 + 1) (by omega), q2]; rfl
    · exact Fr.of_below hb2 fun j hj => ⟨hj.1.1.size, ⟨hA j hj.1.1, hj.1.2⟩, hj.2⟩
  case body =>
    intro l k hk hk' W hI
    have hbxk := HBX.out _ (List.getElem_mem hk)
    have hbyk := HBY.out _ (List.getElem_mem hk')
    have hz : k < (xs2.zip ys2).length := by rw [List.length_zip]; omega
    have hok := scal_ok lsStep lsStep_bd ((xs2.zip ys2).take k) (fun z hz => by
      have := List.of_mem_zip (List.mem_of_mem_take hz)
      exact ⟨HBX.out _ this.1, HBY.out _ this.2⟩) (-1, (F, 0)) hv (by unfold Bd; omega)
    have hsnoc : ((xs2.zip ys2).take (k + 1)).foldl lsStep (-1, (F, 0)) = lsStep (((xs2.zip ys2).take k).foldl lsStep (-1, (F, 0))) (xs2[k], ys2[k]) := by
      rw [List.take_succ_eq_append_getElem hz, List.foldl_append, List.getElem_zip]; rfl
    rw [hsnoc]
    clear hsnoc
    try dsimp only
    generalize xs2[k] = x at *
    generalize ys2[k] = y at *
    generalize ((xs2.zip ys2).take k).foldl lsStep (-1, (F, 0)) = st at *
    obtain ⟨hM, had, hc, hcf, hlp, hfr⟩ := hI.cl (W' := W.drew) (row := none) ⟨rfl, rfl, rfl, Nat.le_refl _, fun _ _ _ => rfl⟩ (fun r e => by cases e)
    have km := hfr.keep (w1.heap.size + 1) ⟨⟨hnew 1 (by omega), by omega⟩, by omega⟩
    have cm : W.drew.cell? ⟨w1.heap.size + 1, 0, none⟩ = some (.pointer (some ⟨w1.heap.size, 0, none⟩)) := by simp only [World.cell?, km.2, q1]; rfl
    have hbd0 := hok.2
    have hcall := mxor_any w1.heap.size bb st.2 x y W.drew hM hbxk hbyk
    have HCALL := hid hcall; clear hcall
    have hbd1 := mkM_bd (g := fun F => xorM F x y) (s := st.2) (xorM_bd _ _ _ hM.b.vars hbxk hbyk)
    have hst : lsStep st (x, y) = mkM (fun F => muxM F (mkM (fun F => xorM F x y) st.2).1 y st.1) (mkM (fun F => xorM F x y) st.2).2 := rfl
    generalize hR : mkM (fun F => xorM F x y) st.2 = r at *
    have hmo : Try.prog.follows .mixedOrders = true := by kernel_rfl
    have hFa : ∀ f, (Fence.wide.inRound l).fn f := fun _ => trivial
    have hS : (fun W' : World => W'.cell? ⟨w1.heap.size + 1 + 1, 0, none⟩ = some (.int .i64 st.1) ∧ W'.cell? ⟨w1.heap.size + 1, 0, none⟩ = some (.pointer (some ⟨w1.heap.size, 0, none⟩))) W.drew := ⟨hc, cm⟩
    gi_wp2_with fail
    refine wpIn_region_HI (fun W' : World => W'.cell? ⟨w1.heap.size + 1 + 1, 0, none⟩ = some (.int .i64 st.1) ∧ W'.cell? ⟨w1.heap.size + 1, 0, none⟩ = some (.pointer (some ⟨w1.heap.size, 0, none⟩))) 8 hmo ?_
    simp only [List.size_toArray, List.length_cons, List.length_nil, Nat.reduceAdd]
    refine wpHI_take (v := ?v0) 0 hFa rfl (by kernel_rfl) (fun _ _ _ h => h) (Or.inl ⟨by rfl, ?y0⟩) hS ?r0
    case y0 => (intro w' hS'; obtain ⟨s1, s2⟩ := hS'; go_simp; try rfl)
    simp only [Act.put, List.setIfInBounds_toArray, List.set_cons_zero, List.set_cons_succ]
    refine wpHI_take (v := ?v1) 1 hFa rfl (by kernel_rfl) (fun _ _ _ h => h) (Or.inl ⟨by rfl, ?y1⟩) hS ?r1
    case y1 => (intro w' hS'; obtain ⟨s1, s2⟩ := hS'; go_simp; try rfl)
    simp only [Act.put, List.setIfInBounds_toArray, List.set_cons_zero, List.set_cons_succ]
    refine wpHI_take (v := ?v2) 2 hFa rfl (by kernel_rfl) (fun _ _ _ h => h) (Or.inl ⟨by rfl, ?y2⟩) hS ?r2
    case y2 => (intro w' hS'; obtain ⟨s1, s2⟩ := hS'; go_simp; try rfl)
    simp only [Act.put, List.setIfInBounds_toArray, List.set_cons_zero, List.set_cons_succ]
    refine wpHI_take (v := ?v3) 3 hFa rfl (by kernel_rfl) (fun _ _ _ h => h) (Or.inl ⟨by rfl, ?y3⟩) hS ?r3
    case y3 => (intro w' hS'; obtain ⟨s1, s2⟩ := hS'; go_simp; try rfl)
    simp only [Act.put, List.setIfInBounds_toArray, List.set_cons_zero, List.set_cons_succ]
    refine wpHI_take (v := ?v5) 5 hFa rfl (by kernel_rfl) (fun _ _ _ h => h) (Or.inl ⟨by rfl, ?y5⟩) hS ?r5
    case y5 => (intro w' hS'; obtain ⟨s1, s2⟩ := hS'; go_simp; try rfl)
    simp only [Act.put, List.setIfInBounds_toArray, List.set_cons_zero, List.set_cons_succ]
    refine wpHI_take (v := ?v6) 6 hFa rfl (by kernel_rfl) (fun _ _ _ h => h) (Or.inl ⟨by rfl, ?y6⟩) hS ?r6
    case y6 => (intro w' hS'; obtain ⟨s1, s2⟩ := hS'; go_simp; try rfl)
    simp only [Act.put, List.setIfInBounds_toArray, List.set_cons_zero, List.set_cons_succ]
    refine wpHI_only 4 (by kernel_rfl) rfl ?_
    intro K hK
    go_simp
    refine (CallsIn.inRound l (callsIn_wide.2 HCALL.out)).mono ?_
    rintro e W2 ⟨rfl, hM2, hfr2⟩
    have ad2 := (hfr2.keep _ had).1
    have hc2 := (hfr2.cell (i := 0) had).trans hc
    have hcf2 := (hfr2.frozen (i := 0) had).trans hcf
    have cm2 := (hfr2.cell (i := 0) km.1.1).trans cm
    have hcall2 := mmux_any w1.heap.size bb r.2 r.1 y st.1 W2 hM2 hbd1 hbyk hbd0
    generalize hR2 : mkM (fun F => muxM F r.1 y st.1) r.2 = r2 at *
    have HCALL2 := hid hcall2; clear hcall2
    have HST := hid hst; clear hst
    refine hK _ _ (.inr ⟨hc2, cm2⟩) ?_
    clear hK K
    refine wpHI_only 7 (by kernel_rfl) rfl ?_
    intro K hK
    go_simp
    refine (CallsIn.inRound l (callsIn_wide.2 HCALL2.out)).mono ?_
    rintro e W3 ⟨rfl, hM3, hfr3⟩
    have ad3 := (hfr3.keep _ ad2).1
    have hc3 := (hfr3.cell (i := 0) ad2).trans hc2
    have hcf3 := (hfr3.frozen (i := 0) ad2).trans hcf2
    have cm3 := (hfr3.cell (i := 0) (hfr2.keep _ km.1.1).1).trans cm2
    refine hK _ _ (.inr ⟨hc3, cm3⟩) ?_
    clear hK K
    refine wpHI_only 8 (by kernel_rfl) rfl ?_
    intro K hK
    go_simp
    refine hK _ _ (.inl rfl) ?_
    clear hK K
    refine wpHI_done (by kernel_rfl) ?_ _
    gi_wp2
    rw [HST.out]
    obtain ⟨g1, g2, g3⟩ := hM3.far ad3 0 (Value.int .i64 r2.1)
    have hstep : ∀ j, AwayM w1.heap.size bb W.drew j → j ≠ w1.heap.size + 1 + 1 →
        AwayM w1.heap.size bb (W3.setCell ⟨w1.heap.size + 1 + 1, 0, none⟩ (Value.int .i64 r2.1)) j ∧ (W3.setCell ⟨w1.heap.size + 1 + 1, 0, none⟩ (Value.int .i64 r2.1)).heap[j]? = W.drew.heap[j]? := fun j hj h2 => by
      obtain ⟨k1, k2⟩ := hfr2.keep j hj
      obtain ⟨k3, k4⟩ := hfr3.keep j k1
      obtain ⟨k5, k6⟩ := g2.keep j ⟨k3, h2⟩
      exact ⟨k5, k6.trans (k4.trans k2)⟩
    refine ⟨⟨(hstep _ hlp.1 (by omega)).2, (hstep _ hlp.2 (by omega)).2⟩, fun j hj => (hstep j (hfr.keep j hj).1.1 hj.2).2, ?_⟩
    refine ⟨g1, g3 _ ad3, World.cell?_setCell_same (a := ⟨w1.heap.size + 1 + 1, 0, none⟩) (v := Value.int .i64 r2.1) _ hc3, ?_, ⟨(hstep _ hlp.1 (by omega)).1, (hstep _ hlp.2 (by omega)).1⟩, ?_⟩
    · rw [World.frozen?_setCell]; exact hcf3
    · exact ⟨g2.os.trans (hfr3.os.trans (hfr2.os.trans hfr.os)), g2.tape.trans (hfr3.tape.trans (hfr2.tape.trans hfr.tape)), g2.output.trans (hfr3.output.trans (hfr2.output.trans hfr.output)),
        Nat.le_trans hfr.size (Nat.le_trans hfr2.size (Nat.le_trans hfr3.size g2.size)), fun j hj => by
          obtain ⟨k1, k2⟩ := hfr.keep j hj
          obtain ⟨k3, k4⟩ := hstep j k1.1 k1.2
          exact ⟨⟨k3, k1.2⟩, k4.trans k2⟩⟩
  case done =>
    intro D W hD hI hdef
    rw [show (xs2.zip ys2).take xs2.length = xs2.zip ys2 from List.take_of_length_le (by rw [List.length_zip]; omega)] at hI
    have hok := scal_ok lsStep lsStep_bd (xs2.zip ys2) (fun z hz => by
      have := List.of_mem_zip hz
      exact ⟨HBX.out _ this.1, HBY.out _ this.2⟩) (-1, (F, 0)) hv (by unfold Bd; omega)
    generalize (xs2.zip ys2).foldl lsStep (-1, (F, 0)) = st at *
    obtain ⟨hM, had, hc, hcf, hlp, hfr⟩ := hI
    have km := hfr.keep (w1.heap.size + 1) ⟨⟨hnew 1 (by omega), by omega⟩, by omega⟩
    have cm : W.cell? ⟨w1.heap.size + 1, 0, none⟩ = some (.pointer (some ⟨w1.heap.size, 0, none⟩)) := by simp only [World.cell?, km.2, q1]; rfl
    have c1 : W.cell? ⟨w1.heap.size, 1, none⟩ = some (.int .i64 st.2.2) := by simp only [World.cell?, hM.blk]; rfl
    have hbst := hok.2
    unfold Bd at hbst
    have hone := one_any w1.heap.size st.2.2 (st.1) W c1
    have hlm := litM_eq (st.1) st.2
    generalize (if st.2.2 = 0 then st.1 else 0) = q at *
    have HONE := hid hone; clear hone
    have HLM := hid hlm; clear hlm
    clear hok
    gi_wp2_with fail
    first | refine (callsIn_wide.2 HONE.out).mono ?_ | (refine ⟨trivial, ?_⟩; refine (callsIn_wide.2 HONE.out).mono ?_)
    rintro e W3 ⟨rfl, hb3⟩
    gi_wp2_with fail
    have hdef3 : W3.heap[D]? = some (.deferred (some [])) := (hb3.block D (Array.getElem?_eq_some_iff.1 hdef).1).trans hdef
    refine ⟨by simp, .inl ⟨_, _, rfl, run_takeDeferred hdef3, ?_⟩⟩
    have hDlt := (Array.getElem?_eq_some_iff.1 hdef).1
    have hg5 : W3.grownBy (W3.putObj D (.deferred none)) (some D) := grownBy_putObj' W3 D _
    have hcl : Cl W (W3.putObj D (.deferred none)) := by
      have h1 : Cl W W3 := Cl.of (row := none) ⟨hb3.os, hb3.tape, hb3.output, hb3.size, fun k hk _ => hb3.block k hk⟩ (fun r e => by cases e)
      have h2 : Cl W3 (W3.putObj D (.deferred none)) := Cl.of hg5 (fun r e => by cases e; exact ⟨_, hdef3, rfl⟩)
      exact ⟨h2.os.trans h1.os, h2.tape.trans h1.tape, h2.output.trans h1.output, Nat.le_trans h1.size h2.size, fun k c t fz hk => h2.keep _ _ _ _ (h1.keep _ _ _ _ hk)⟩
    obtain ⟨hM5, hA5⟩ := hcl.isM hM
    have hfr5 : FrB bb w (W3.putObj D (.deferred none)) := ⟨hcl.os.trans (hfr.os.trans hfw.os), hcl.tape.trans (hfr.tape.trans hfw.tape), hcl.output.trans (hfr.output.trans hfw.output),
      Nat.le_trans hfw.size (Nat.le_trans hfr.size hcl.size), fun j hj => by
        have hjl := hj.size
        obtain ⟨k1, k2⟩ := hfw.keep j hj
        obtain ⟨k3, k4⟩ := hfr.keep j ⟨⟨k1, by omega⟩, by omega⟩
        exact ⟨(hA5 _ k3.1).1, (hg5.block j (by have := hb3.size; have := k3.1.1.size; omega) (fun e => by injection e with e; omega)).trans ((hb3.block j k3.1.1.size).trans (k4.trans k2))⟩⟩
    refine ⟨.tuple #[.int .i64 q, .int .i64 st.2.2], by simp [results, Try.results32, go_sem], ?_⟩
    rw [HLM.out]
    exact ⟨rfl, hM5.b, hfr5⟩

theorem less_any (bb : Nat) (F : Form) (xs ys : List Int) (sg : Bool) (vx vy : Value) (w : World) (hB : IsB w bb F) (hx : Ints (Away bb w) w vx xs) (hy : Ints (Away bb w) w vy ys)
    (hlit : ∀ l ∈ [xs, ys], ∀ x ∈ l, -9223372036854775807 ≤ x ∧ x ≤ 9223372036854775807) :
    Calls Try.prog 32 #[.pointer (some ⟨bb, 0, none⟩), vx, vy, .bool sg] w (GatePost bb w (lessM F xs ys sg)) := by
  obtain ⟨px, cx, rfl, hx1, hx2, hx3, hrx⟩ := hx.op
  obtain ⟨py, cy, rfl, hy1, hy2, hy3, hry⟩ := hy.op
  by_cases hc0 : checkM F [] [xs, ys] = 0
  · cases sg
    · exact less_u bb F xs ys px py cx cy w hB hx hy hlit hc0 hrx hry
    · exact less_s bb F xs ys px py cx cy w hB hx hy hlit hc0 hrx hry
  · have hck := check2 bb F xs ys px py cx cy w hB hx hy hlit
    unfold lessM
    rw [if_neg hc0]
    have hd : (checkM F [] [xs, ys] != 0) = true := by simp [hc0]
    generalize checkM F [] [xs, ys] = er at *
    have HCK := hid hck
    clear hck hc0 hrx hry hx hy hB hlit
    go_enter Try.func32, Try.ntmps32
    go_wp2_with (go_at_call 87; refine HCK.out.mono ?_; rintro e w1 ⟨rfl, hB1, hf1⟩)
    go_ret2
    exact ⟨rfl, hB1, hf1⟩

end Go.Proofs.Ytngimdbjcelkeaa
