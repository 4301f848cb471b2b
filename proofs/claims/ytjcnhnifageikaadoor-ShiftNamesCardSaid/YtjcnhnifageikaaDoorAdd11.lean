/-
  The walk of package adder's Choose.
-/
import Derived.Test.YtjcnhnifageikaaDoorAdd9
import Derived.Test.YtjcnhnifageikaaDoorAdd10
namespace Go.Proofs.YtjcnhnifageikaaDoor
set_option linter.unusedSimpArgs false
set_option linter.unusedVariables false
open Go.RowKit Go.Shelf
attribute [local go_sem] Oper.semAt_some

/-- What Choose's loop carries: the state st, over the box Bo. -/
structure ChI (mb bb Bo : Nat) (W0 : World) (st : List Int × MS) (k : Nat) (W : World) : Prop where
  m : IsM W mb bb st.2
  ao : AwayM mb bb W Bo
  o : ∃ v, W.cell? ⟨Bo, 0, none⟩ = some v ∧ W.frozen? ⟨Bo, 0, none⟩ = false ∧ W.ownsRow (W0.heap.size + 2) 3 1 v k (st.1.map (Value.int .i64)) ∧ ∀ j, v.ownBlock = some j → AwayM mb bb W j
  lp : AwayM mb bb W W0.heap.size ∧ AwayM mb bb W (W0.heap.size + 1)
  fr : Fr (fun j => AwayM mb bb W0 j ∧ j ≠ Bo) (fun j => AwayM mb bb W j ∧ j ≠ Bo) W0 W

theorem ChI.cl {mb bb Bo : Nat} {W0 W W' : World} {st : List Int × MS} {k : Nat} {row : Option Nat} (h : ChI mb bb Bo W0 st k W) (hg : W.grownBy W' row)
    (hr : ∀ r, row = some r → W0.heap.size ≤ r ∧ ∃ o : Obj, W.heap[r]? = some o ∧ o.isCells = false) : ChI mb bb Bo W0 st k W' := by
  have hc := Cl.of hg (fun r e => (hr r e).2)
  have hm := hc.isM h.m
  obtain ⟨v, hv, hvf, ho, hj⟩ := h.o
  refine ⟨hm.1, hm.2 _ h.ao, ⟨v, hc.cell hv, (hc.frozen hv).trans hvf, hc.owns ho, fun j e => hm.2 _ (hj j e)⟩, ⟨hm.2 _ h.lp.1, hm.2 _ h.lp.2⟩, ?_⟩
  have hf := h.fr
  exact ⟨hg.os.trans hf.os, hg.tape.trans hf.tape, hg.output.trans hf.output, Nat.le_trans hf.size hg.size, fun j hj => by
    obtain ⟨⟨a1, a2⟩, e⟩ := hf.keep j hj
    have hjlt := hj.1.1.size
    exact ⟨⟨hm.2 _ a1, a2⟩, (hg.block j (Nat.lt_of_lt_of_le hjlt hf.size) (fun e' => by have := (hr j e'.symm).1; omega)).trans e⟩⟩

theorem chF_ok (c : Int) (hc : Bd c) (l : List (Int × Int)) (hl : ∀ x ∈ l, Bd x.1 ∧ Bd x.2) : ∀ st : List Int × MS, st.2.1.vars ≤ 1048576 → (l.foldl (chStep c) st).2.1.vars ≤ 1048576 ∧ (l.foldl (chStep c) st).1.length = st.1.length + l.length := by
  induction l with
  | nil => intro st h1; exact ⟨h1, rfl⟩
  | cons x l ih =>
    intro st h1
    have h2 : (chStep c st x).2.1.vars ≤ 1048576 := mkM_vars h1 (fun F hF => muxM_vars F _ _ _ hF)
    obtain ⟨a, b⟩ := ih (fun y hy => hl y (by simp [hy])) _ h2
    refine ⟨a, b.trans ?_⟩
    simp [chStep]; omega

/-- The arguments of check, with a single literal in a box and two words. -/
theorem check3 (bb : Nat) (F : Form) (c : Int) (xs ys : List Int) (px py : Option Addr) (cx cy : Nat) (w : World) (hB : IsB w bb F) (hx : Ints (Away bb w) w (.slice px xs.length cx) xs) (hy : Ints (Away bb w) w (.slice py ys.length cy) ys)
    (hlit : ∀ l ∈ [c] :: [xs, ys], ∀ x ∈ l, -9223372036854775807 ≤ x ∧ x ≤ 9223372036854775807) :
    Calls Tryd.prog 37 #[.pointer (some ⟨bb, 0, none⟩), .slice (some ⟨w.heap.size + 1, 0, none⟩) 1 1, .slice (some ⟨w.heap.size + 1 + 1, 0, none⟩) 2 2]
      (((w.alloc (.cells #[.int .i64 c] 3)).alloc (.cells #[.int .i64 c] 3)).alloc (.cells #[.slice px xs.length cx, .slice py ys.length cy] 23)) fun e w' =>
      e = .returned (.int .i64 (checkM F [c] [xs, ys])) ∧ IsB w' bb F ∧ FrB bb w w' ∧ w'.cell? ⟨w.heap.size, 0, none⟩ = some (.int .i64 c) ∧ w.heap.size < w'.heap.size ∧ Away bb w' w.heap.size := by
  have hB1 := ((hB.al (.cells #[.int .i64 c] 3)).al (.cells #[.int .i64 c] 3)).al (.cells #[.slice px xs.length cx, .slice py ys.length cy] 23)
  have hbl : Below w.heap.size w (((w.alloc (.cells #[.int .i64 c] 3)).alloc (.cells #[.int .i64 c] 3)).alloc (.cells #[.slice px xs.length cx, .slice py ys.length cy] 23)) :=
    (((Below.refl _ _).alloc (Nat.le_refl _) _).alloc (by simp) _).alloc (by simp; omega) _
  have hcc : (((w.alloc (.cells #[.int .i64 c] 3)).alloc (.cells #[.int .i64 c] 3)).alloc (.cells #[.slice px xs.length cx, .slice py ys.length cy] 23)).cell? ⟨w.heap.size, 0, none⟩ = some (.int .i64 c) := by
    simp only [cell_al, World.size_alloc]; rw [if_neg (by omega), if_neg (by omega)]; rfl
  have h1 : (((w.alloc (.cells #[.int .i64 c] 3)).alloc (.cells #[.int .i64 c] 3)).alloc (.cells #[.slice px xs.length cx, .slice py ys.length cy] 23)).cell? ⟨w.heap.size + 1, 0, none⟩ = some (.int .i64 c) := by
    simp only [cell_al, World.size_alloc]; rw [if_neg (by omega), if_pos trivial]; rfl
  have h2 : ∀ j (hj : j < [Value.slice px xs.length cx, Value.slice py ys.length cy].length), (((w.alloc (.cells #[.int .i64 c] 3)).alloc (.cells #[.int .i64 c] 3)).alloc (.cells #[.slice px xs.length cx, .slice py ys.length cy] 23)).cell? ⟨w.heap.size + 1 + 1, j, none⟩ = some [Value.slice px xs.length cx, Value.slice py ys.length cy][j] := fun j hj => by
    simp only [cell_al, World.size_alloc]; rw [if_pos trivial]
    have : j = 0 ∨ j = 1 := by simp at hj; omega
    rcases this with rfl | rfl <;> rfl
  have hf1 : FrB bb w _ := FrB.of_below hB hbl
  have hsz : (((w.alloc (.cells #[.int .i64 c] 3)).alloc (.cells #[.int .i64 c] 3)).alloc (.cells #[.slice px xs.length cx, .slice py ys.length cy] 23)).heap.size = w.heap.size + 3 := by simp only [World.size_alloc]
  have hA := fun k (h : w.heap.size ≤ k) (h' : k < w.heap.size + 3) => hB.away_new hbl h (by rw [hsz]; exact h')
  generalize hW : World.alloc (World.alloc _ _) _ = W at *
  refine (check_any bb F [c] [xs, ys] [.slice px xs.length cx, .slice py ys.length cy] _ _ 1 1 2 2 _ hB1 rfl (by simp) (by unfold maxLen; omega) (by simp)
    (.inr ⟨_, 0, rfl, hA _ (by omega) (by omega), fun j hj => by obtain rfl : j = 0 := by { simp at hj; omega }; exact h1⟩) rfl (by simp)
    (.inr ⟨_, 0, rfl, hA _ (by omega) (by omega), fun j hj => by rw [Nat.zero_add]; exact h2 j hj⟩) rfl (fun i h h' => ?_) hlit).mono ?_
  · have : i = 0 ∨ i = 1 := by simp at h; omega
    rcases this with rfl | rfl
    · exact hx.fr hf1
    · exact hy.fr hf1
  · rintro e w1 ⟨rfl, h3, h4⟩
    have h5 := hA w.heap.size (Nat.le_refl _) (by omega)
    exact ⟨rfl, h3, hf1.trans h4, (h4.cell (i := 0) h5).trans hcc, by have := h4.size; omega, (h4.keep _ h5).1⟩

set_option maxRecDepth 100000 in
set_option maxHeartbeats 3200000 in
theorem choose_any (bb : Nat) (F : Form) (c : Int) (xs ys : List Int) (vx vy : Value) (w : World) (hB : IsB w bb F) (hx : Ints (Away bb w) w vx xs) (hy : Ints (Away bb w) w vy ys)
    (hlit : ∀ l ∈ [c] :: [xs, ys], ∀ x ∈ l, -9223372036854775807 ≤ x ∧ x ≤ 9223372036854775807) :
    Calls Tryd.prog 23 #[.pointer (some ⟨bb, 0, none⟩), .int .i64 c, vx, vy] w (WPost bb w (chooseM F c xs ys)) := by
  obtain ⟨px, cx, rfl, hx1, hx2, hx3, hrx⟩ := hx.op
  obtain ⟨py, cy, rfl, hy1, hy2, hy3, hry⟩ := hy.op
  have hck := check3 bb F c xs ys px py cx cy w hB hx hy hlit
  have hBl := hB.lt
  have hcb : (((w.alloc (.cells #[.int .i64 c] 3)).alloc (.cells #[.int .i64 c] 3)).alloc (.cells #[.slice px xs.length cx, .slice py ys.length cy] 23)).cell? ⟨w.heap.size, 0, none⟩ = some (.int .i64 c) := by
    simp only [cell_al, World.size_alloc]; rw [if_neg (by omega), if_neg (by omega)]; rfl
  clear hcb
  unfold chooseM
  by_cases hc0 : checkM F [c] [xs, ys] = 0
  · rw [if_pos hc0]
    rw [hc0] at hck
    obtain ⟨hl1, hl64, hyl, hkc, hkx, hky⟩ := check_two hc0
    have hv := hB.vars
    have hbc : Bd c := hasAll_bd hv hkc c (by simp)
    have HBX := hid (hasAll_bd hv hkx)
    have HBY := hid (hasAll_bd hv hky)
    have HYL := hid hyl
    have HCK := hid hck
    have HR := hid (And.intro hrx hry)
    clear hck hc0 hrx hry hx hy hB hlit hkc hkx hky hyl
    refine (callsIn_wide (n := 9)).1 ?_
    refine callsIn_of_wp_marks Tryd.func23 rfl trivial ?_ rfl
    simp only [Tryd.ntmps23, List.size_toArray, List.length_cons, List.length_nil, Nat.reduceAdd, Nat.reduceSub, Array.replicate_succ, Array.replicate_zero, List.push_toArray, List.append_toArray, List.nil_append, List.cons_append]
    gi_wp2_with fail
    refine ⟨trivial, ?_⟩
    refine (callsIn_wide.2 HCK.out).mono ?_
    rintro e w1 ⟨rfl, hB1, hf1, hcc, hcl, hcA⟩
    have HRX := hid (HR.out.1.fr hf1)
    have HRY := hid (HR.out.2.fr hf1)
    have HB1 := hid hB1; have HF1 := hid hf1; have HCC := hid hcc; have HCA := hid hcA
    clear hB1 hf1 HCK HR hcc hcA
    gi_wp2_with fail
    first | gi_at_call 38 | (refine ⟨trivial, ?_⟩; gi_at_call 38)
    refine (callsIn_wide.2 (callsIn_wide.1 (pairs_any _ _ _ _ _ _ _))).mono ?_
    rintro e w2 ⟨rfl, rfl⟩
    gi_wp2_with fail
    generalize hW0 : World.alloc _ _ = W0
    have hbW : Below w1.heap.size w1 W0 := by
      rw [← hW0]
      exact (((((Below.refl _ _).alloc (Nat.le_refl _) _).alloc (by simp only [World.size_alloc]; omega) _).alloc (by simp only [World.size_alloc]; omega) _).alloc (by simp only [World.size_alloc]; omega) _).alloc (by simp only [World.size_alloc]; omega) _
    have hsz : W0.heap.size = w1.heap.size + 5 := by rw [← hW0]; simp only [World.size_alloc]
    have q0 : W0.heap[w1.heap.size]? = some (.cells #[.pointer (some ⟨bb, 0, none⟩), .int .i64 0] 87 (0, 0)) := by rw [← hW0]; rw [heap_al, if_neg (by simp only [World.size_alloc]; omega)]; rw [heap_al, if_neg (by simp only [World.size_alloc]; omega)]; rw [heap_al, if_neg (by simp only [World.size_alloc]; omega)]; rw [heap_al, if_neg (by simp only [World.size_alloc]; omega)]; rw [heap_al, if_pos (by simp only [World.size_alloc])]
    have q1 : W0.heap[w1.heap.size + 1]? = some (.cells #[.pointer (some ⟨w1.heap.size, 0, none⟩)] 85 (0, 0)) := by rw [← hW0]; rw [heap_al, if_neg (by simp only [World.size_alloc]; omega)]; rw [heap_al, if_neg (by simp only [World.size_alloc]; omega)]; rw [heap_al, if_neg (by simp only [World.size_alloc]; omega)]; rw [heap_al, if_pos (by simp only [World.size_alloc])]
    have q2 : W0.heap[w1.heap.size + 1 + 1]? = some (.cells #[.slice none 0 0] 23 (0, 0)) := by rw [← hW0]; rw [heap_al, if_neg (by simp only [World.size_alloc]; omega)]; rw [heap_al, if_neg (by simp only [World.size_alloc]; omega)]; rw [heap_al, if_pos (by simp only [World.size_alloc])]
    have q3 : W0.heap[w1.heap.size + 1 + 1 + 1]? = some (.cells #[.slice px xs.length cx] 23 (0, 0)) := by rw [← hW0]; rw [heap_al, if_neg (by simp only [World.size_alloc]; omega)]; rw [heap_al, if_pos (by simp only [World.size_alloc])]
    have q4 : W0.heap[w1.heap.size + 1 + 1 + 1 + 1]? = some (.cells #[.slice py ys.length cy] 23 (0, 0)) := by rw [← hW0]; rw [heap_al, if_pos (by simp only [World.size_alloc])]
    clear hW0
    have hB1 := HB1.out
    have hBW := hB1.below hbW
    have hfW : FrB bb w1 W0 := FrB.of_below hB1 hbW
    have hfw := HF1.out.trans hfW
    have hws := HF1.out.size
    have hccW : W0.cell? ⟨w.heap.size, 0, none⟩ = some (.int .i64 c) := (hfW.cell (i := 0) HCA.out).trans HCC.out
    have hcA := (hfW.keep _ HCA.out).1
    have hnew : ∀ i, i < 5 → Away bb W0 (w1.heap.size + i) := fun i hi => hB1.away_new hbW (by omega) (by omega)
    have hM0 : IsM W0 w1.heap.size bb (F, 0) := ⟨q0, hnew 0 (by omega), hBW⟩
    have hS0 : ∀ j, Away bb w1 j → (AwayM w1.heap.size bb W0 j ∧ j ≠ w1.heap.size + 1 + 1) ∧ W0.heap[j]? = w1.heap[j]? := fun j hj => by
      have := hj.size
      exact ⟨⟨⟨(hfW.keep j hj).1, by omega⟩, by omega⟩, (hfW.keep j hj).2⟩
    refine wp_range_pairs (w1.heap.size + 1 + 1 + 1) (w1.heap.size + 1 + 1 + 1 + 1) (fun j => AwayM w1.heap.size bb W0 j ∧ j ≠ w1.heap.size + 1 + 1) px py cx cy xs ys HYL.out (by omega) rfl rfl
      (fun k hk => hk.1.1.size) ⟨⟨hnew 3 (by omega), by omega⟩, by omega⟩ ⟨⟨hnew 4 (by omega), by omega⟩, by omega⟩ (by simp [World.cell?, q3]) (by simp [World.cell?, q4])
      (HRX.out.keep hS0) (HRY.out.keep hS0)
      (fun k W => ChI w1.heap.size bb (w1.heap.size + 1 + 1) W0 (((xs.zip ys).take k).foldl (chStep c) ([], (F, 0))) k W)
      (fun s W W' row h hg hr => h.cl hg hr) ?h0 ?a1 ?assign ?body ?done
    case assign =>
      intro l x y W K hK
      gi_wp2
      exact hK
    case h0 =>
      intro o o' ho ho'
      have hb2 : Below W0.heap.size W0 ((W0.alloc o).alloc o') := ((Below.refl _ _).alloc (Nat.le_refl _) _).alloc (by simp) _
      have hA : ∀ j, Away bb W0 j → Away bb ((W0.alloc o).alloc o') j := fun j hj => ((FrB.of_below hBW hb2).keep j hj).1
      have hcl : ∀ j, j < W0.heap.size → ((W0.alloc o).alloc o').heap[j]? = W0.heap[j]? := fun j hj => hb2.block j hj
      refine ⟨⟨(hcl _ (by omega)).trans q0, hA _ hM0.away, hBW.below hb2⟩, ⟨hA _ (hnew 2 (by omega)), by omega⟩, ⟨.slice none 0 0, ?_, ?_, World.ownsRow_nil _ _ _ _, fun j e => by cases e⟩,
        ⟨⟨hBW.away_new hb2 (by omega) (by simp only [World.size_alloc]; omega), by omega⟩, ⟨hBW.away_new hb2 (by omega) (by simp only [World.size_alloc]; omega), by omega⟩⟩, ?_⟩
      · simp only [World.cell?, hcl (w1.heap.size + 1 + 1) (by omega), q2]; rfl
      · simp only [World.frozen?, hcl (w1.heap.size + 1 + 1) (by omega), q2]; rfl
      · exact Fr.of_below hb2 fun j hj => ⟨hj.1.1.size, ⟨hA j hj.1.1, hj.1.2⟩, hj.2⟩
    case body =>
      intro l k hk hk' W hI
      have hbxk := HBX.out _ (List.getElem_mem hk)
      have hbyk := HBY.out _ (List.getElem_mem hk')
      have hz : k < (xs.zip ys).length := by rw [List.length_zip]; omega
      have hok := chF_ok c hbc ((xs.zip ys).take k) (fun z hz => by
        have := List.of_mem_zip (List.mem_of_mem_take hz)
        exact ⟨HBX.out _ this.1, HBY.out _ this.2⟩) ([], (F, 0)) hv
      have hsnoc : ((xs.zip ys).take (k + 1)).foldl (chStep c) ([], (F, 0)) = chStep c (((xs.zip ys).take k).foldl (chStep c) ([], (F, 0))) (xs[k], ys[k]) := by
        rw [List.take_succ_eq_append_getElem hz, List.foldl_append, List.getElem_zip]; rfl
      have hlen : (((xs.zip ys).take k).foldl (chStep c) ([], (F, 0))).1.length = k := by rw [hok.2, List.length_take]; show 0 + _ = k; omega
      rw [hsnoc]
      clear hsnoc hok
      generalize xs[k] = x at *
      generalize ys[k] = y at *
      generalize ((xs.zip ys).take k).foldl (chStep c) ([], (F, 0)) = st at *
      obtain ⟨hM, hao, ⟨v, ho, hof, hown, hvA⟩, hlp, hfr⟩ := hI.cl (W' := W.drew) (row := none) ⟨rfl, rfl, rfl, Nat.le_refl _, fun _ _ _ => rfl⟩ (fun r e => by cases e)
      have km := hfr.keep (w1.heap.size + 1) ⟨⟨hnew 1 (by omega), by omega⟩, by omega⟩
      have kc := hfr.keep w.heap.size ⟨⟨hcA, by omega⟩, by omega⟩
      have cm : W.drew.cell? ⟨w1.heap.size + 1, 0, none⟩ = some (.pointer (some ⟨w1.heap.size, 0, none⟩)) := by simp only [World.cell?, km.2, q1]; rfl
      have cc : W.drew.cell? ⟨w.heap.size, 0, none⟩ = some (.int .i64 c) := (World.cell?_of_block (a := ⟨w.heap.size, 0, none⟩) kc.2).trans hccW
      have hcall := mmux_any w1.heap.size bb st.2 c x y W.drew hM hbc hbxk hbyk
      have hst : chStep c st (x, y) = (st.1 ++ [(mkM (fun F => muxM F c x y) st.2).1], (mkM (fun F => muxM F c x y) st.2).2) := rfl
      generalize hR : mkM (fun F => muxM F c x y) st.2 = r at *
      have HCALL := hid hcall; clear hcall
      have HST := hid hst; clear hst
      have HLEN := hid hlen; clear hlen
      have hmo : Tryd.prog.follows .mixedOrders = true := by kernel_rfl
      have hFa : ∀ f, (Fence.wide.inRound l).fn f := fun _ => trivial
      have hS : (fun W' : World => W'.cell? ⟨w1.heap.size + 1 + 1, 0, none⟩ = some v ∧ W'.cell? ⟨w1.heap.size + 1, 0, none⟩ = some (.pointer (some ⟨w1.heap.size, 0, none⟩)) ∧ W'.cell? ⟨w.heap.size, 0, none⟩ = some (.int .i64 c)) W.drew := ⟨ho, cm, cc⟩
      gi_wp2_with fail
      refine wpIn_region_HI (fun W' : World => W'.cell? ⟨w1.heap.size + 1 + 1, 0, none⟩ = some v ∧ W'.cell? ⟨w1.heap.size + 1, 0, none⟩ = some (.pointer (some ⟨w1.heap.size, 0, none⟩)) ∧ W'.cell? ⟨w.heap.size, 0, none⟩ = some (.int .i64 c)) 8 hmo ?_
      simp only [List.size_toArray, List.length_cons, List.length_nil, Nat.reduceAdd]
      refine wpHI_take (v := ?v0) 0 hFa rfl (by kernel_rfl) (fun _ _ _ h => h) (Or.inl ⟨by rfl, ?y0⟩) hS ?r0
      case y0 => (intro w' hS'; obtain ⟨s1, s2, s3⟩ := hS'; go_simp; try rfl)
      simp only [Act.put, List.setIfInBounds_toArray, List.set_cons_zero, List.set_cons_succ]
      refine wpHI_take (v := ?v1) 1 hFa rfl (by kernel_rfl) (fun _ _ _ h => h) (Or.inl ⟨by rfl, ?y1⟩) hS ?r1
      case y1 => (intro w' hS'; obtain ⟨s1, s2, s3⟩ := hS'; go_simp; try rfl)
      simp only [Act.put, List.setIfInBounds_toArray, List.set_cons_zero, List.set_cons_succ]
      refine wpHI_take (v := ?v2) 2 hFa rfl (by kernel_rfl) (fun _ _ _ h => h) (Or.inl ⟨by rfl, ?y2⟩) hS ?r2
      case y2 => (intro w' hS'; obtain ⟨s1, s2, s3⟩ := hS'; go_simp; try rfl)
      simp only [Act.put, List.setIfInBounds_toArray, List.set_cons_zero, List.set_cons_succ]
      refine wpHI_take (v := ?v3) 3 hFa rfl (by kernel_rfl) (fun _ _ _ h => h) (Or.inl ⟨by rfl, ?y3⟩) hS ?r3
      case y3 => (intro w' hS'; obtain ⟨s1, s2, s3⟩ := hS'; go_simp; try rfl)
      simp only [Act.put, List.setIfInBounds_toArray, List.set_cons_zero, List.set_cons_succ]
      refine wpHI_take (v := ?v4) 4 hFa rfl (by kernel_rfl) (fun _ _ _ h => h) (Or.inl ⟨by rfl, ?y4⟩) hS ?r4
      case y4 => (intro w' hS'; obtain ⟨s1, s2, s3⟩ := hS'; go_simp; try rfl)
      simp only [Act.put, List.setIfInBounds_toArray, List.set_cons_zero, List.set_cons_succ]
      refine wpHI_only 5 (by kernel_rfl) rfl ?_
      intro K hK
      go_simp
      refine (CallsIn.inRound l (callsIn_wide.2 HCALL.out)).mono ?_
      rintro e W2 ⟨rfl, hM2, hfr2⟩
      have hWsz : W0.heap.size + 1 < W.drew.heap.size := hlp.2.1.size
      have ho2 := (hfr2.cell (i := 0) hao).trans ho
      have hof2 := (hfr2.frozen (i := 0) hao).trans hof
      have cm2 := (hfr2.cell (i := 0) km.1.1).trans cm
      have cc2 := (hfr2.cell (i := 0) kc.1.1).trans cc
      have hsz2 := hfr2.size
      refine hK _ _ (.inr ⟨ho2, cm2, cc2⟩) ?_
      clear hK K
      refine wpHI_only 6 (by kernel_rfl) rfl ?_
      intro K hK
      go_simp
      have ho3 : (W2.alloc (.cells #[.int .i64 r.1] 3)).cell? ⟨w1.heap.size + 1 + 1, 0, none⟩ = some v := by rw [cell_al, if_neg (by omega)]; exact ho2
      have cm3 : (W2.alloc (.cells #[.int .i64 r.1] 3)).cell? ⟨w1.heap.size + 1, 0, none⟩ = some (.pointer (some ⟨w1.heap.size, 0, none⟩)) := by rw [cell_al, if_neg (by omega)]; exact cm2
      have cc3 : (W2.alloc (.cells #[.int .i64 r.1] 3)).cell? ⟨w.heap.size, 0, none⟩ = some (.int .i64 c) := by rw [cell_al, if_neg (by omega)]; exact cc2
      refine hK _ _ (.inr ⟨ho3, cm3, cc3⟩) ?_
      clear hK K
      have hvlt : ∀ j, v.ownBlock = some j → W0.heap.size + 2 ≤ j ∧ j < W.drew.heap.size := hown.lt
      have hvA2 : ∀ j, v.ownBlock = some j → AwayM w1.heap.size bb W2 j ∧ W2.heap[j]? = W.drew.heap[j]? := fun j hj => hfr2.keep j (hvA j hj)
      have hown2 : W2.ownsRow (W0.heap.size + 2) 3 1 v k (st.1.map (Value.int .i64)) := owns_keep hown fun j hj => (hvA2 j hj).2
      refine wpHI_only 7 (by kernel_rfl) rfl ?_
      intro K hK
      rw [if_pos (by simp [Region.wanted])]
      refine wpIn_app hFa (.tmp 33) (.tmp 39) 23 rfl (W0.heap.size + 2) 3 (.int .i64 0) 8 Tryd.underlying23 info_int rfl _ k _ rfl (hown2.alloc _) (some ⟨W2.heap.size, 0, none⟩) 1 1 [.int .i64 r.1] rfl rfl (RowR.one _ _ _) (by simp [Value.oneCell']) (by omega) (by unfold maxLen; omega) (by rw [World.size_alloc]; omega) ?_
      intro v' W4 hown4 hg4 hat4
      simp only [Act.put, List.getElem_toArray, List.getElem_cons_succ, List.getElem_cons_zero, List.setIfInBounds_toArray, List.set_cons_zero, List.set_cons_succ]
      have hgA := (World.grownBy_alloc W2 (.cells #[.int .i64 r.1] 3) v.ownBlock).trans hg4
      have hrowA : ∀ j, v.ownBlock = some j → AwayM w1.heap.size bb W2 j := fun j hj => (hvA2 j hj).1
      obtain ⟨hM4, hA4⟩ := hM2.grown hgA hrowA
      have hnv : ∀ j, j < W0.heap.size + 2 → some j ≠ v.ownBlock := fun j hj e => by have := (hvlt j e.symm).1; omega
      have ho4 : W4.cell? ⟨w1.heap.size + 1 + 1, 0, none⟩ = some v := hgA.cell ho2 (hnv (w1.heap.size + 1 + 1) (by omega))
      have hof4 : W4.frozen? ⟨w1.heap.size + 1 + 1, 0, none⟩ = false := (hgA.frozen_far ⟨w1.heap.size + 1 + 1, 0, none⟩ (by show w1.heap.size + 1 + 1 < _; omega) (hnv (w1.heap.size + 1 + 1) (by omega))).trans hof2
      have cm4 : W4.cell? ⟨w1.heap.size + 1, 0, none⟩ = some (.pointer (some ⟨w1.heap.size, 0, none⟩)) := hgA.cell cm2 (hnv (w1.heap.size + 1) (by omega))
      have cc4 : W4.cell? ⟨w.heap.size, 0, none⟩ = some (.int .i64 c) := hgA.cell cc2 (hnv w.heap.size (by omega))
      obtain ⟨pv, cv, rfl⟩ := own_slice hown4
      refine hK _ _ (.inr ⟨ho4, cm4, cc4⟩) ?_
      clear hK K
      refine wpHI_only 8 (by kernel_rfl) rfl ?_
      intro K hK
      go_simp
      refine hK _ _ (.inl rfl) ?_
      clear hK K
      refine wpHI_done (by kernel_rfl) ?_ _
      gi_wp2
      rw [HST.out]
      have hao4 : AwayM w1.heap.size bb W4 (w1.heap.size + 1 + 1) := hA4 _ (hfr2.keep _ hao).1
      obtain ⟨g1, g2, g3⟩ := hM4.far hao4 0 (Value.slice pv (k + 1) cv)
      have hstep : ∀ j, AwayM w1.heap.size bb W.drew j → j ≠ w1.heap.size + 1 + 1 → some j ≠ v.ownBlock →
          AwayM w1.heap.size bb (W4.setCell ⟨w1.heap.size + 1 + 1, 0, none⟩ (Value.slice pv (k + 1) cv)) j ∧ (W4.setCell ⟨w1.heap.size + 1 + 1, 0, none⟩ (Value.slice pv (k + 1) cv)).heap[j]? = W.drew.heap[j]? := fun j hj h2 h3 => by
        obtain ⟨k1, k2⟩ := hfr2.keep j hj
        have k3 := hgA.block j k1.1.size h3
        obtain ⟨k4, k5⟩ := g2.keep j ⟨hA4 _ k1, h2⟩
        exact ⟨k4, k5.trans (k3.trans k2)⟩
      have hnew' : ∀ j, (Value.slice pv (k + 1) cv).ownBlock = some j → AwayM w1.heap.size bb W4 j ∧ w1.heap.size + 1 + 1 < j := fun j hj => by
        have hlt := (hown4.lt j hj)
        refine ⟨?_, by omega⟩
        rcases hat4 with e | e
        · rw [e] at hj; exact hA4 _ (hrowA j hj)
        · rw [e] at hj
          injection hj with hj
          have h1 : W2.heap.size < j := by rw [← hj, World.size_alloc]; omega
          exact hM2.grown_new hgA hrowA (by omega) hlt.2
      refine ⟨⟨(hstep _ hlp.1 (by omega) (hnv _ (by omega))).2, (hstep _ hlp.2 (by omega) (hnv _ (by omega))).2⟩, fun j hj => (hstep j (hfr.keep j hj).1.1 hj.2 (hnv _ (by have := hj.1.1.size; omega))).2, ?_⟩
      refine ⟨g1, g3 _ hao4, ⟨_, World.cell?_setCell_same (a := ⟨w1.heap.size + 1 + 1, 0, none⟩) (v := Value.slice pv (k + 1) cv) _ ho4, ?_, ?_, fun j hj => g3 _ (hnew' j hj).1⟩,
        ⟨(hstep _ hlp.1 (by omega) (hnv _ (by omega))).1, (hstep _ hlp.2 (by omega) (hnv _ (by omega))).1⟩, ?_⟩
      · rw [World.frozen?_setCell]; exact hof4
      · rw [List.map_append]
        exact owns_keep hown4 fun j hj => Below.heap_setCell _ _ _ _ (by have := (hnew' j hj).2; show j ≠ w1.heap.size + 1 + 1; omega)
      · exact ⟨g2.os.trans (hgA.os.trans (hfr2.os.trans hfr.os)), g2.tape.trans (hgA.tape.trans (hfr2.tape.trans hfr.tape)), g2.output.trans (hgA.output.trans (hfr2.output.trans hfr.output)),
          Nat.le_trans hfr.size (Nat.le_trans hfr2.size (Nat.le_trans hgA.size g2.size)), fun j hj => by
            obtain ⟨k1, k2⟩ := hfr.keep j hj
            obtain ⟨k3, k4⟩ := hstep j k1.1 k1.2 (hnv _ (by have := hj.1.1.size; omega))
            exact ⟨⟨k3, k1.2⟩, k4.trans k2⟩⟩
    case done =>
      intro D W hD hI hdef
      rw [show (xs.zip ys).take xs.length = xs.zip ys from List.take_of_length_le (by rw [List.length_zip]; omega)] at hI
      generalize (xs.zip ys).foldl (chStep c) ([], (F, 0)) = st at *
      obtain ⟨hM, hao, ⟨v, ho, hof, hown, hvA⟩, hlp, hfr⟩ := hI
      obtain ⟨pv, cv, rfl⟩ := own_slice hown
      have km := hfr.keep (w1.heap.size + 1) ⟨⟨hnew 1 (by omega), by omega⟩, by omega⟩
      have cm : W.cell? ⟨w1.heap.size + 1, 0, none⟩ = some (.pointer (some ⟨w1.heap.size, 0, none⟩)) := by simp only [World.cell?, km.2, q1]; rfl
      have c1 : W.cell? ⟨w1.heap.size, 1, none⟩ = some (.int .i64 st.2.2) := by simp only [World.cell?, hM.blk]; rfl
      have hword := word_any w1.heap.size st.2.2 pv xs.length cv W c1
      obtain ⟨p', n', c', hvr⟩ : ∃ p' n' c', (if st.2.2 = 0 then Value.slice pv xs.length cv else .slice none 0 0) = .slice p' n' c' := by split <;> exact ⟨_, _, _, rfl⟩
      rw [hvr] at hword
      have HWORD := hid hword; clear hword
      have HVR := hid hvr; clear hvr
      have hwm : wordM st = (if st.2.2 = 0 then (st.1, 0, st.2.1) else ([], st.2.2, st.2.1)) := rfl
      have HWM := hid hwm; clear hwm
      gi_wp2_with fail
      first | refine (callsIn_wide.2 HWORD.out).mono ?_ | (refine ⟨trivial, ?_⟩; refine (callsIn_wide.2 HWORD.out).mono ?_)
      rintro e W3 ⟨rfl, hb3⟩
      gi_wp2_with fail
      have hdef3 : W3.heap[D]? = some (.deferred (some [])) := (hb3.block D (Array.getElem?_eq_some_iff.1 hdef).1).trans hdef
      refine ⟨by simp, .inl ⟨_, _, rfl, run_takeDeferred hdef3, ?_⟩⟩
      have hDlt := (Array.getElem?_eq_some_iff.1 hdef).1
      have hg5 : W3.grownBy (W3.putObj D (.deferred none)) (some D) := grownBy_putObj' W3 D _
      have hcl : Cl W (W3.putObj D (.deferred none)) := by
        have h1 : Cl W W3 := Cl.of (row := none) ⟨hb3.os, hb3.tape, hb3.output, hb3.size, fun k hk _ => hb3.block k hk⟩ (fun r e => by cases e)
        have h2 : Cl W3 (W3.putObj D (.deferred none)) := Cl.of hg5 (fun r e => by cases e; exact ⟨_, hdef3, rfl⟩)
        exact ⟨h2.os.trans h1.os, h2.tape.trans h1.tape, h2.output.trans h1.output, Nat.le_trans h1.size h2.size, fun k c t fz hk => h2.keep _ _ _ _ (h1.keep _ _ _ _ hk)⟩
      obtain ⟨hM5, hA5⟩ := hcl.isM hM
      have hfr5 : FrB bb w (W3.putObj D (.deferred none)) := ⟨hcl.os.trans (hfr.os.trans hfw.os), hcl.tape.trans (hfr.tape.trans hfw.tape), hcl.output.trans (hfr.output.trans hfw.output),
        Nat.le_trans hfw.size (Nat.le_trans hfr.size hcl.size), fun j hj => by
          have hjl := hj.size
          obtain ⟨k1, k2⟩ := hfw.keep j hj
          obtain ⟨k3, k4⟩ := hfr.keep j ⟨⟨k1, by omega⟩, by omega⟩
          exact ⟨(hA5 _ k3.1).1, (hg5.block j (by have := hb3.size; have := k3.1.1.size; omega) (fun e => by injection e with e; omega)).trans ((hb3.block j k3.1.1.size).trans (k4.trans k2))⟩⟩
      refine ⟨.tuple #[.slice p' n' c', .int .i64 st.2.2], by simp [results, Tryd.results23, go_sem], ?_⟩
      rw [HWM.out]
      by_cases hz : st.2.2 = 0
      · rw [if_pos hz]
        have e := HVR.out
        rw [if_pos hz] at e
        refine ⟨_, by rw [hz], ?_, hM5.b, hfr5⟩
        rw [← e]
        exact Sl.of_owns (hcl.owns hown) (by omega) (fun j hj => (hA5 _ (hvA j hj)).1)
      · rw [if_neg hz]
        have e := HVR.out
        rw [if_neg hz] at e
        refine ⟨_, rfl, ?_, hM5.b, hfr5⟩
        rw [← e]
        exact Sl.nil
  · have e : (if checkM F [c] [xs, ys] = 0 then wordM ((xs.zip ys).foldl (chStep c) ([], (F, 0))) else ([], checkM F [c] [xs, ys], F)) = ([], checkM F [c] [xs, ys], F) := if_neg hc0
    rw [e]; clear e
    have hd : (checkM F [c] [xs, ys] != 0) = true := by simp [hc0]
    generalize checkM F [c] [xs, ys] = er at *
    have HCK := hid hck
    clear hck hc0 hrx hry hx hy hB hlit
    go_enter Tryd.func23, Tryd.ntmps23
    go_wp2_with (go_at_call 37; refine HCK.out.mono ?_; rintro e w1 ⟨rfl, hB1, hf1, _⟩)
    go_ret2
    exact ⟨_, rfl, Sl.nil, hB1, hf1⟩

end Go.Proofs.YtjcnhnifageikaaDoor
