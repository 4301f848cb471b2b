/-
  The walk of package adder's Add.
-/
import Derived.Test.YtngimdbjcelkeaaAdd5
import Derived.Laws.EntriesVeiled
namespace Go.Proofs.Ytngimdbjcelkeaa
set_option linter.unusedSimpArgs false
set_option linter.unusedVariables false
open Go.RowKit Go.Shelf
attribute [local go_sem] Oper.semAt_some

/-- append, as one operation inside a fence. -/
theorem wpIn_app {F : Fence} {n0 : Nat} {P : Program} {w : World} (hF : ∀ f, F.fn f) {R : Nat → Prop} {o : Oper} {a : Act} {K : Act → World → Prop} {Q : Exit → Act → World → Prop} (s x : Operand) (t : TypeId)
    (ho : o.op = .call { callee := .builtin .append, args := #[s, x], argTypes := #[t, t] })
    (base : Nat) (e : TypeId) (z : Value) (bytes : Nat) (ht : P.underlying t = some (.slice e))
    (hinfo : (P.info? e).map (fun i => (i.zero, i.size, i.bytes)) = some (some z, 1, bytes)) (hzs : z.cells.size = 1)
    (v : Value) (n : Nat) (xs : List Value) (hs : a.eval s = v) (hown : w.ownsRow base e 1 v n xs)
    (p : Option Addr) (m c : Nat) (news : List Value) (hx : a.eval x = .slice p m c) (hm : m = news.length) (hr : RowR R w p news) (h1 : ∀ u ∈ news, u.oneCell' = true)
    (hsz : (n + m) * bytes ≤ 140737488355328) (h63 : n + m ≤ maxLen) (hbase : base ≤ w.heap.size)
    (h : ∀ v' w', w'.ownsRow base e 1 v' (n + m) (xs ++ news) → w.grownBy w' v.ownBlock → (v'.ownBlock = v.ownBlock ∨ v'.ownBlock = some w.heap.size) → K (a.put o.dst v') w') : o.wpIn F n0 P a w K Q := by
  obtain ⟨v', w', hrun, h2, h3, h4⟩ := run_app (P := P) w base t o.type e z bytes ht hinfo hzs v n xs hown p m c news hm hr h1 hsz h63 hbase
  refine ⟨fun f _ => hF f, ?_⟩
  rw [Oper.semAt_eq _ _ _ (fun c e => by rw [ho] at e; cases e)]
  unfold execOp
  simp only [ho, resolve, invoke, builtin, Sem.run_bind, Sem.run_pure, Result.andThen_ok, List.map_toArray, List.map_cons, List.map_nil, hs, hx, hrun, Oper.uponIn]
  exact h v' w' h2 h3 h4

/-- A block that such a step makes is none of the builder's. -/
theorem IsB.grown_new {w w' : World} {bb : Nat} {F : Form} {row : Option Nat} (h : IsB w bb F) (hg : w.grownBy w' row) (hr : ∀ r, row = some r → Away bb w r) {k : Nat} (h1 : w.heap.size ≤ k) (h2 : k < w'.heap.size) : Away bb w' k := by
  have hlt := h.lt
  have hbl := fun {k} (hk : bblk w bb = some k) => h.bblk_lt hk
  obtain ⟨v, vs, hh, ho, hne, hl, hc, hrd⟩ := h.ex
  have hb : ∀ k, k < w.heap.size → (∀ r, row = some r → k ≠ r) → w'.heap[k]? = w.heap[k]? := fun k hk hk' => hg.block k hk (fun e => hk' k e.symm rfl)
  have hh' := (hb bb hlt (fun r e => (hr r e).ne.symm)).trans hh
  have ho' : w'.ownsRow 0 23 1 v vs.length vs := by
    refine ho.kept hg ?_
    cases hv : v.ownBlock with
    | none => exact .inl rfl
    | some g =>
      refine .inr fun e => ?_
      have := (hr g e.symm).1.2.2
      rw [bblk_of hh, hv] at this
      exact this rfl
  refine ⟨⟨h2, by omega, fun e => ?_⟩, fun e => ?_⟩
  · rw [bblk_of hh', ← bblk_of hh] at e
    have := hbl e
    omega
  · obtain ⟨u, hu, hk⟩ := (bcl_of hh' ho').1 e
    have := (hrd u hu k hk).size
    omega
theorem IsM.grown_new {w w' : World} {mb bb : Nat} {s : MS} {row : Option Nat} (h : IsM w mb bb s) (hg : w.grownBy w' row) (hr : ∀ r, row = some r → AwayM mb bb w r) {k : Nat} (h1 : w.heap.size ≤ k) (h2 : k < w'.heap.size) : AwayM mb bb w' k :=
  ⟨h.b.grown_new hg (fun r e => (hr r e).1) h1 h2, by have := h.away.size; omega⟩

abbrev WOut := List Int × Int × Form
def addM (F : Form) (xs ys : List Int) (carry : Int) : WOut :=
  if checkM F [carry] [xs, ys] = 0 then
    let st := addF (F, 0) carry (xs.zip ys)
    if st.2.2.2 = 0 then (st.1, 0, st.2.2.1) else ([], st.2.2.2, st.2.2.1)
  else ([], checkM F [carry] [xs, ys], F)

/-- What a function that returns a word comes to. -/
def WPost (bb : Nat) (w : World) (r : WOut) (e : Ending) (w' : World) : Prop :=
  ∃ v, e = .returned (.tuple #[v, .int .i64 r.2.1]) ∧ Ints (Away bb w') w' v r.1 ∧ IsB w' bb r.2.2 ∧ FrB bb w w'

theorem check_zero {F : Form} {single : List Int} {words : List (List Int)} (h : checkM F single words = 0) :
    (∀ l ∈ words, 1 ≤ l.length ∧ l.length ≤ 64 ∧ l.length = (words.headD []).length) ∧ ∀ l ∈ single :: words, hasAll F.vars l = true := by
  unfold checkM at h
  split at h
  · rename_i h1
    split at h
    · rename_i h2
      refine ⟨fun l hl => ?_, fun l hl => List.all_eq_true.1 h2 l hl⟩
      have := List.all_eq_true.1 h1 l hl
      simpa [goodLen] using this
    · cases h
  · cases h
theorem check_two {F : Form} {single xs ys : List Int} (h : checkM F single [xs, ys] = 0) : 1 ≤ xs.length ∧ xs.length ≤ 64 ∧ ys.length = xs.length ∧ hasAll F.vars single = true ∧ hasAll F.vars xs = true ∧ hasAll F.vars ys = true := by
  obtain ⟨h1, h2⟩ := check_zero h
  have a := h1 xs (by simp)
  have b := h1 ys (by simp)
  exact ⟨a.1, a.2.1, b.2.2, h2 _ (by simp), h2 _ (by simp), h2 _ (by simp)⟩
theorem hasAll_bd {n : Nat} {l : List Int} (hn : n ≤ 1048576) (h : hasAll n l = true) : ∀ x ∈ l, Bd x := fun x hx => Bd.lit hn (List.all_eq_true.1 h x hx)

set_option maxRecDepth 100000 in
set_option maxHeartbeats 3200000 in
theorem add_any (bb : Nat) (F : Form) (xs ys : List Int) (carry : Int) (vx vy : Value) (w : World) (hB : IsB w bb F) (hx : Ints (Away bb w) w vx xs) (hy : Ints (Away bb w) w vy ys)
    (hlit : ∀ l ∈ [carry] :: [xs, ys], ∀ x ∈ l, -9223372036854775807 ≤ x ∧ x ≤ 9223372036854775807) :
    Calls Try.prog 25 #[.pointer (some ⟨bb, 0, none⟩), vx, vy, .int .i64 carry] w (WPost bb w (addM F xs ys carry)) := by
  obtain ⟨px, cx, rfl, hx1, hx2, hx3, hrx⟩ := hx.op
  obtain ⟨py, cy, rfl, hy1, hy2, hy3, hry⟩ := hy.op
  -- the world in which check is called: the box of the carry, two blocks of its arguments
  have hB1 := ((hB.al (.cells #[.int .i64 carry] 3)).al (.cells #[.int .i64 carry] 3)).al (.cells #[.slice px xs.length cx, .slice py ys.length cy] 23)
  have hbl : Below w.heap.size w (((w.alloc (.cells #[.int .i64 carry] 3)).alloc (.cells #[.int .i64 carry] 3)).alloc (.cells #[.slice px xs.length cx, .slice py ys.length cy] 23)) :=
    (((Below.refl _ _).alloc (Nat.le_refl _) _).alloc (by simp) _).alloc (by simp; omega) _
  have hf1 : FrB bb w _ := FrB.of_below hB hbl
  have hAs : RowR (Away bb (((w.alloc (.cells #[.int .i64 carry] 3)).alloc (.cells #[.int .i64 carry] 3)).alloc (.cells #[.slice px xs.length cx, .slice py ys.length cy] 23)))
      (((w.alloc (.cells #[.int .i64 carry] 3)).alloc (.cells #[.int .i64 carry] 3)).alloc (.cells #[.slice px xs.length cx, .slice py ys.length cy] 23)) (some ⟨w.heap.size + 1, 0, none⟩) [.int .i64 carry] :=
    .inr ⟨_, 0, rfl, hB.away_new hbl (by omega) (by simp only [World.size_alloc]; omega), fun j hj => by obtain rfl : j = 0 := by { simp at hj; omega }; simp [cell_al]⟩
  have hAw : RowR (Away bb (((w.alloc (.cells #[.int .i64 carry] 3)).alloc (.cells #[.int .i64 carry] 3)).alloc (.cells #[.slice px xs.length cx, .slice py ys.length cy] 23)))
      (((w.alloc (.cells #[.int .i64 carry] 3)).alloc (.cells #[.int .i64 carry] 3)).alloc (.cells #[.slice px xs.length cx, .slice py ys.length cy] 23)) (some ⟨w.heap.size + 2, 0, none⟩) [.slice px xs.length cx, .slice py ys.length cy] :=
    .inr ⟨_, 0, rfl, hB.away_new hbl (by omega) (by simp only [World.size_alloc]; omega), fun j hj => by
      have : j = 0 ∨ j = 1 := by simp at hj; omega
      rcases this with rfl | rfl <;> simp [cell_al]⟩
  have hck := check_any bb F [carry] [xs, ys] [.slice px xs.length cx, .slice py ys.length cy] _ _ 1 1 2 2 _ hB1 rfl (by simp) (by unfold maxLen; omega) (by simp) hAs rfl (by simp) hAw rfl
    (fun i h h' => by
      have : i = 0 ∨ i = 1 := by simp at h; omega
      rcases this with rfl | rfl
      · exact (hx.fr hf1)
      · exact (hy.fr hf1)) hlit
  have HCK := hid hck
  have HF1 := hid hf1
  have HBC := hid (hB.away_new hbl (k := w.heap.size) (Nat.le_refl _) (by simp only [World.size_alloc]; omega))
  clear hck hAs hAw hlit hbl hf1
  have hcc : (((w.alloc (.cells #[.int .i64 carry] 3)).alloc (.cells #[.int .i64 carry] 3)).alloc (.cells #[.slice px xs.length cx, .slice py ys.length cy] 23)).cell? ⟨w.heap.size, 0, none⟩ = some (.int .i64 carry) := by simp only [cell_al, World.size_alloc]; rw [if_neg (by omega), if_neg (by omega)]; rfl
  have hcf : (((w.alloc (.cells #[.int .i64 carry] 3)).alloc (.cells #[.int .i64 carry] 3)).alloc (.cells #[.slice px xs.length cx, .slice py ys.length cy] 23)).frozen? ⟨w.heap.size, 0, none⟩ = false := by
    rw [World.frozen?_alloc_old _ _ _ (by simp; omega), World.frozen?_alloc_old _ _ _ (by simp), World.frozen?_alloc_new]
  have HCF := hid hcf
  clear hcf
  have HCC := hid hcc
  clear hcc
  by_cases hc0 : checkM F [carry] [xs, ys] = 0
  · obtain ⟨hl1, hl64, hyl, hkc, hkx, hky⟩ := check_two hc0
    have e : addM F xs ys carry = (if (addF (F, 0) carry (xs.zip ys)).2.2.2 = 0 then ((addF (F, 0) carry (xs.zip ys)).1, 0, (addF (F, 0) carry (xs.zip ys)).2.2.1) else ([], (addF (F, 0) carry (xs.zip ys)).2.2.2, (addF (F, 0) carry (xs.zip ys)).2.2.1)) := by
      unfold addM; rw [if_pos hc0]
    have HRES := hid e; clear e
    have hv := hB.vars
    have hbc : Bd carry := hasAll_bd hv hkc carry (by simp)
    have hbx := hasAll_bd hv hkx
    have hby := hasAll_bd hv hky
    have HE := HCK.out
    rw [hc0] at HE
    have HE' := hid HE; clear HE HCK hkc hkx hky hc0
    have HYL := hid hyl; clear hyl
    refine (callsIn_wide (n := 9)).1 ?_
    refine callsIn_of_wp_marks Try.func25 rfl trivial ?_ rfl
    simp only [Try.ntmps25, List.size_toArray, List.length_cons, List.length_nil, Nat.reduceAdd, Nat.reduceSub, Array.replicate_succ, Array.replicate_zero, List.push_toArray, List.append_toArray, List.nil_append, List.cons_append]
    gi_wp2_with fail
    refine ⟨trivial, ?_⟩
    refine (callsIn_wide.2 HE'.out).mono ?_
    rintro e w1 ⟨rfl, hB2, hf2⟩
    gi_wp2_with fail
    refine ⟨trivial, ?_⟩
    gi_at_call 91
    refine (callsIn_wide.2 (callsIn_wide.1 (pairs_any _ _ _ _ _ _ _))).mono ?_
    rintro e w2 ⟨rfl, rfl⟩
    gi_wp2_with fail
    have hbW : Below w1.heap.size w1 ((((((w1.alloc (.cells #[.pointer (some ⟨bb, 0, none⟩), .int .i64 0] 129)).alloc (.cells #[.pointer (some ⟨w1.heap.size, 0, none⟩)] 127)).alloc (.cells #[.func (.func 88) #[] #[.pointer (some ⟨w1.heap.size + 1, 0, none⟩), .pointer (some ⟨w.heap.size, 0, none⟩)]] 81)).alloc (.cells #[.slice none 0 0] 23)).alloc (.cells #[.slice px xs.length cx] 23)).alloc (.cells #[.slice py ys.length cy] 23)) :=
      ((((((Below.refl _ _).alloc (Nat.le_refl _) _).alloc (by simp only [World.size_alloc]; omega) _).alloc (by simp only [World.size_alloc]; omega) _).alloc (by simp only [World.size_alloc]; omega) _).alloc (by simp only [World.size_alloc]; omega) _).alloc (by simp only [World.size_alloc]; omega) _
    generalize hW0 : World.alloc _ _ = W0 at hbW ⊢
    have hsz : W0.heap.size = w1.heap.size + 6 := by rw [← hW0]; simp only [World.size_alloc]
    have q0 : W0.heap[w1.heap.size]? = some (.cells #[.pointer (some ⟨bb, 0, none⟩), .int .i64 0] 129 (0, 0)) := by rw [← hW0]; rw [heap_al, if_neg (by simp only [World.size_alloc]; omega)]; rw [heap_al, if_neg (by simp only [World.size_alloc]; omega)]; rw [heap_al, if_neg (by simp only [World.size_alloc]; omega)]; rw [heap_al, if_neg (by simp only [World.size_alloc]; omega)]; rw [heap_al, if_neg (by simp only [World.size_alloc]; omega)]; rw [heap_al, if_pos (by simp only [World.size_alloc])]
    have q1 : W0.heap[w1.heap.size + 1]? = some (.cells #[.pointer (some ⟨w1.heap.size, 0, none⟩)] 127 (0, 0)) := by rw [← hW0]; rw [heap_al, if_neg (by simp only [World.size_alloc]; omega)]; rw [heap_al, if_neg (by simp only [World.size_alloc]; omega)]; rw [heap_al, if_neg (by simp only [World.size_alloc]; omega)]; rw [heap_al, if_neg (by simp only [World.size_alloc]; omega)]; rw [heap_al, if_pos (by simp only [World.size_alloc])]
    have q2 : W0.heap[w1.heap.size + 1 + 1]? = some (.cells #[.func (.func 88) #[] #[.pointer (some ⟨w1.heap.size + 1, 0, none⟩), .pointer (some ⟨w.heap.size, 0, none⟩)]] 81 (0, 0)) := by rw [← hW0]; rw [heap_al, if_neg (by simp only [World.size_alloc]; omega)]; rw [heap_al, if_neg (by simp only [World.size_alloc]; omega)]; rw [heap_al, if_neg (by simp only [World.size_alloc]; omega)]; rw [heap_al, if_pos (by simp only [World.size_alloc])]
    have q3 : W0.heap[w1.heap.size + 1 + 1 + 1]? = some (.cells #[.slice none 0 0] 23 (0, 0)) := by rw [← hW0]; rw [heap_al, if_neg (by simp only [World.size_alloc]; omega)]; rw [heap_al, if_neg (by simp only [World.size_alloc]; omega)]; rw [heap_al, if_pos (by simp only [World.size_alloc])]
    have q4 : W0.heap[w1.heap.size + 1 + 1 + 1 + 1]? = some (.cells #[.slice px xs.length cx] 23 (0, 0)) := by rw [← hW0]; rw [heap_al, if_neg (by simp only [World.size_alloc]; omega)]; rw [heap_al, if_pos (by simp only [World.size_alloc])]
    have q5 : W0.heap[w1.heap.size + 1 + 1 + 1 + 1 + 1]? = some (.cells #[.slice py ys.length cy] 23 (0, 0)) := by rw [← hW0]; rw [heap_al, if_pos (by simp only [World.size_alloc])]
    clear hW0
    have hBW := hB2.below hbW
    have hfW : FrB bb w1 W0 := FrB.of_below hB2 hbW
    have hf2W := hf2.trans hfW
    have hfw := HF1.out.trans hf2W
    have hwlt : w.heap.size + 3 ≤ w1.heap.size := by have := hf2.size; simp only [World.size_alloc] at this; omega
    have hcc := (hf2W.cell (i := 0) HBC.out).trans HCC.out
    have hcf := (hf2W.frozen (i := 0) HBC.out).trans HCF.out
    have hcA := (hf2W.keep _ HBC.out).1
    have hnew : ∀ i, i < 6 → Away bb W0 (w1.heap.size + i) := fun i hi => hB2.away_new hbW (by omega) (by omega)
    have hM0 : IsM W0 w1.heap.size bb (F, 0) := ⟨q0, hnew 0 (by omega), hBW⟩
    have hrx0 : RowR (fun j => Away bb W0 j ∧ j < w.heap.size) W0 px (xs.map (Value.int .i64)) := hrx.keep fun j hj => ⟨⟨(hfw.keep j hj).1, hj.size⟩, (hfw.keep j hj).2⟩
    have hry0 : RowR (fun j => Away bb W0 j ∧ j < w.heap.size) W0 py (ys.map (Value.int .i64)) := hry.keep fun j hj => ⟨⟨(hfw.keep j hj).1, hj.size⟩, (hfw.keep j hj).2⟩
    have hS0 : ∀ j, (Away bb W0 j ∧ j < w.heap.size) → (AwayM w1.heap.size bb W0 j ∧ j ≠ w.heap.size ∧ j ≠ w1.heap.size + 1 + 1 + 1) := fun j hj => ⟨⟨hj.1, by omega⟩, by omega, by omega⟩
    refine wp_range_pairs (w1.heap.size + 1 + 1 + 1 + 1) (w1.heap.size + 1 + 1 + 1 + 1 + 1) (fun j => AwayM w1.heap.size bb W0 j ∧ j ≠ w.heap.size ∧ j ≠ w1.heap.size + 1 + 1 + 1) px py cx cy xs ys HYL.out (by omega) rfl rfl
      (fun k hk => hk.1.1.size) ⟨⟨hnew 4 (by omega), by omega⟩, by omega, by omega⟩ ⟨⟨hnew 5 (by omega), by omega⟩, by omega, by omega⟩ (by simp [World.cell?, q4]) (by simp [World.cell?, q5])
      (hrx0.keep fun j hj => ⟨hS0 j hj, rfl⟩) (hry0.keep fun j hj => ⟨hS0 j hj, rfl⟩)
      (fun k W => AddI w1.heap.size bb w.heap.size (w1.heap.size + 1 + 1 + 1) W0 (addF (F, 0) carry ((xs.zip ys).take k)) k W)
      (fun s W W' row h hg hr => h.cl hg hr) ?h0 (fun x y => { tmps := #[.pointer (some ⟨bb, 0, none⟩), .slice px xs.length cx, .slice py ys.length cy, .int .i64 carry, undef, undef, undef, .pointer (some ⟨w.heap.size, 0, none⟩), .slice none 0 0, .int .i64 0, .int .i64 0,
        .pointer (some ⟨w1.heap.size + 1, 0, none⟩), .pointer (some ⟨w1.heap.size + 1 + 1, 0, none⟩), .pointer (some ⟨w1.heap.size + 1 + 1 + 1, 0, none⟩), .int .i64 x, .int .i64 y, .pointer (some ⟨bb, 0, none⟩), .int .i64 carry,
        .slice (some ⟨w.heap.size + 1, 0, none⟩) 1 1, .slice px xs.length cx, .slice py ys.length cy, .slice (some ⟨w.heap.size + 1 + 1, 0, none⟩) 2 2, .int .i64 0, .int .i64 0, .bool false, undef, .pointer (some ⟨bb, 0, none⟩),
        .agg #[.pointer (some ⟨bb, 0, none⟩), .int .i64 0], .pointer (some ⟨w1.heap.size, 0, none⟩), .func (.func 88) #[] #[.pointer (some ⟨w1.heap.size + 1, 0, none⟩), .pointer (some ⟨w.heap.size, 0, none⟩)],
        .slice px xs.length cx, .slice py ys.length cy, .func (.func 119) #[] #[.pointer (some ⟨w1.heap.size + 1 + 1 + 1 + 1, 0, none⟩), .pointer (some ⟨w1.heap.size + 1 + 1 + 1 + 1 + 1, 0, none⟩)],
        .int .i64 x, .int .i64 y, undef, undef, undef, undef, undef, undef, undef, undef, undef, undef, undef, undef], defers := [] }) ?assign ?body ?done
    case h0 =>
      intro o o' ho ho'
      have hb2 : Below W0.heap.size W0 ((W0.alloc o).alloc o') := ((Below.refl _ _).alloc (Nat.le_refl _) _).alloc (by simp) _
      have hA : ∀ j, Away bb W0 j → Away bb ((W0.alloc o).alloc o') j := fun j hj => ((FrB.of_below hBW hb2).keep j hj).1
      have hcl : ∀ j, j < W0.heap.size → ((W0.alloc o).alloc o').heap[j]? = W0.heap[j]? := fun j hj => hb2.block j hj
      refine ⟨⟨(hcl _ (by omega)).trans q0, hA _ hM0.away, hBW.below hb2⟩, ⟨hA _ hcA, by omega⟩, ⟨hA _ (hnew 3 (by omega)), by omega⟩, (hb2.cell (p := ⟨w.heap.size, 0, none⟩) (by show w.heap.size < _; omega)).trans hcc, (hb2.frozen (p := ⟨w.heap.size, 0, none⟩) (by show w.heap.size < _; omega)).trans hcf,
        ⟨.slice none 0 0, ?_, ?_, World.ownsRow_nil _ _ _ _, fun j e => by cases e⟩, ⟨⟨hBW.away_new hb2 (by omega) (by simp only [World.size_alloc]; omega), by omega⟩, ⟨hBW.away_new hb2 (by omega) (by simp only [World.size_alloc]; omega), by omega⟩⟩, ?_⟩
      · simp only [World.cell?, hcl (w1.heap.size + 1 + 1 + 1) (by omega), q3]; rfl
      · simp only [World.frozen?, hcl (w1.heap.size + 1 + 1 + 1) (by omega), q3]; rfl
      · exact Fr.of_below hb2 fun j hj => ⟨hj.1.1.size, ⟨hA j hj.1.1, hj.1.2⟩, hj.2⟩
    case assign =>
      intro l x y W K hK
      gi_wp2
      exact hK
    case body =>
      intro l k hk hk' W hI
      have hbxk := hbx _ (List.getElem_mem hk)
      have hbyk := hby _ (List.getElem_mem hk')
      have hz : k < (xs.zip ys).length := by rw [List.length_zip]; omega
      have hok := addF_ok (F, 0) carry ((xs.zip ys).take k) hv hbc (fun z hz => by
        have := List.of_mem_zip (List.mem_of_mem_take hz)
        exact ⟨hbx _ this.1, hby _ this.2⟩)
      have hsnoc : addF (F, 0) carry ((xs.zip ys).take (k + 1)) = addStep (addF (F, 0) carry ((xs.zip ys).take k)) (xs[k], ys[k]) := by
        rw [List.take_succ_eq_append_getElem hz, addF_snoc, List.getElem_zip]
      have hlen : (addF (F, 0) carry ((xs.zip ys).take k)).1.length = k := by rw [addF_len, List.length_take]; omega
      rw [hsnoc]
      clear hsnoc
      generalize xs[k] = x at *
      generalize ys[k] = y at *
      generalize addF (F, 0) carry ((xs.zip ys).take k) = st at *
      obtain ⟨hM, hac, hao, hc, hcf', ⟨v, ho, hof, hown, hvA⟩, hlp, hfr⟩ := hI.cl (W' := W.drew) (row := none) ⟨rfl, rfl, rfl, Nat.le_refl _, fun _ _ _ => rfl⟩ (fun r e => by cases e)
      have kf := hfr.keep (w1.heap.size + 1 + 1) ⟨⟨hnew 2 (by omega), by omega⟩, by omega, by omega⟩
      have km := hfr.keep (w1.heap.size + 1) ⟨⟨hnew 1 (by omega), by omega⟩, by omega, by omega⟩
      have cf : W.drew.cell? ⟨w1.heap.size + 1 + 1, 0, none⟩ = some (.func (.func 88) #[] #[.pointer (some ⟨w1.heap.size + 1, 0, none⟩), .pointer (some ⟨w.heap.size, 0, none⟩)]) := by simp only [World.cell?, kf.2, q2]; rfl
      have cm : W.drew.cell? ⟨w1.heap.size + 1, 0, none⟩ = some (.pointer (some ⟨w1.heap.size, 0, none⟩)) := by simp only [World.cell?, km.2, q1]; rfl
      have hcall := full_any w1.heap.size bb (w1.heap.size + 1) w.heap.size st.2.2 st.2.1 x y W.drew hM km.1.1 hac (by omega) cm hc hcf' hbxk hbyk hok.2.1
      have HCALL := hid hcall; clear hcall
      have hmo : Try.prog.follows .mixedOrders = true := by kernel_rfl
      have hFa : ∀ f, (Fence.wide.inRound l).fn f := fun _ => trivial
      have hS : (fun W' : World => W'.cell? ⟨w1.heap.size + 1 + 1 + 1, 0, none⟩ = some v ∧ W'.cell? ⟨w1.heap.size + 1 + 1, 0, none⟩ = some (.func (.func 88) #[] #[.pointer (some ⟨w1.heap.size + 1, 0, none⟩), .pointer (some ⟨w.heap.size, 0, none⟩)])) W.drew := ⟨ho, cf⟩
      gi_wp2_with fail
      refine wpIn_region_HI (fun W' : World => W'.cell? ⟨w1.heap.size + 1 + 1 + 1, 0, none⟩ = some v ∧ W'.cell? ⟨w1.heap.size + 1 + 1, 0, none⟩ = some (.func (.func 88) #[] #[.pointer (some ⟨w1.heap.size + 1, 0, none⟩), .pointer (some ⟨w.heap.size, 0, none⟩)])) 7 hmo ?_
      simp only [List.size_toArray, List.length_cons, List.length_nil, Nat.reduceAdd]
      refine wpHI_take (v := ?v0) 0 hFa rfl (by kernel_rfl) (fun _ _ _ h => h) (Or.inl ⟨by rfl, ?y0⟩) hS ?r0
      case y0 => (intro w' hS'; obtain ⟨s1, s2⟩ := hS'; go_simp; try rfl)
      simp only [Act.put, List.setIfInBounds_toArray, List.set_cons_zero, List.set_cons_succ]
      refine wpHI_take (v := ?v1) 1 hFa rfl (by kernel_rfl) (fun _ _ _ h => h) (Or.inl ⟨by rfl, ?y1⟩) hS ?r1
      case y1 => (intro w' hS'; obtain ⟨s1, s2⟩ := hS'; go_simp; try rfl)
      simp only [Act.put, List.setIfInBounds_toArray, List.set_cons_zero, List.set_cons_succ]
      refine wpHI_take (v := ?v2) 2 hFa rfl (by kernel_rfl) (fun _ _ _ h => h) (Or.inl ⟨by rfl, ?y2⟩) hS ?r2
      case y2 => (intro w' hS'; obtain ⟨s1, s2⟩ := hS'; go_simp; try rfl)
      simp only [Act.put, List.setIfInBounds_toArray, List.set_cons_zero, List.set_cons_succ]
      refine wpHI_take (v := ?v3) 3 hFa rfl (by kernel_rfl) (fun _ _ _ h => h) (Or.inl ⟨by rfl, ?y3⟩) hS ?r3
      case y3 => (intro w' hS'; obtain ⟨s1, s2⟩ := hS'; go_simp; try rfl)
      simp only [Act.put, List.setIfInBounds_toArray, List.set_cons_zero, List.set_cons_succ]
      refine wpHI_only 4 (by kernel_rfl) rfl ?_
      intro K hK
      go_simp
      refine (CallsIn.inRound l (callsIn_wide.2 HCALL.out)).mono ?_
      rintro e W2 ⟨rfl, hM2, hc2, hcf2, hfr2, hac2⟩
      generalize hR : fullM st.2.2 st.2.1 x y = r at *
      have hWsz : W0.heap.size + 1 < W.drew.heap.size := hlp.2.1.size
      have n1 : w1.heap.size + 1 + 1 + 1 ≠ w.heap.size := by omega
      have n2 : w1.heap.size + 1 + 1 ≠ w.heap.size := by omega
      have ho2 := (hfr2.cell (i := 0) ⟨hao, n1⟩).trans ho
      have hof2 := (hfr2.frozen (i := 0) ⟨hao, n1⟩).trans hof
      have cf2 := (hfr2.cell (i := 0) ⟨kf.1.1, n2⟩).trans cf
      have hsz2 := hfr2.size
      refine hK _ _ (.inr ⟨ho2, cf2⟩) ?_
      clear hK K
      refine wpHI_only 5 (by kernel_rfl) rfl ?_
      intro K hK
      go_simp
      have ho3 : (W2.alloc (.cells #[.int .i64 r.1] 3)).cell? ⟨w1.heap.size + 1 + 1 + 1, 0, none⟩ = some v := by rw [cell_al, if_neg (by omega)]; exact ho2
      have cf3 : (W2.alloc (.cells #[.int .i64 r.1] 3)).cell? ⟨w1.heap.size + 1 + 1, 0, none⟩ = some (.func (.func 88) #[] #[.pointer (some ⟨w1.heap.size + 1, 0, none⟩), .pointer (some ⟨w.heap.size, 0, none⟩)]) := by rw [cell_al, if_neg (by omega)]; exact cf2
      refine hK _ _ (.inr ⟨ho3, cf3⟩) ?_
      clear hK K
      have hvlt : ∀ j, v.ownBlock = some j → W0.heap.size + 2 ≤ j ∧ j < W.drew.heap.size := hown.lt
      have hvA2 : ∀ j, v.ownBlock = some j → AwayM w1.heap.size bb W2 j ∧ W2.heap[j]? = W.drew.heap[j]? := fun j hj => hfr2.keep j ⟨hvA j hj, by have := (hvlt j hj).1; omega⟩
      have hown2 : W2.ownsRow (W0.heap.size + 2) 3 1 v k (st.1.map (Value.int .i64)) := owns_keep hown fun j hj => (hvA2 j hj).2
      refine wpHI_only 6 (by kernel_rfl) rfl ?_
      intro K hK
      rw [if_pos (by simp [Region.wanted])]
      refine wpIn_app hFa (.tmp 35) (.tmp 40) 23 rfl (W0.heap.size + 2) 3 (.int .i64 0) 8 Try.underlying23 info_int rfl _ k _ rfl (hown2.alloc _) (some ⟨W2.heap.size, 0, none⟩) 1 1 [.int .i64 r.1] rfl rfl (RowR.one _ _ _) (by simp [Value.oneCell']) (by omega) (by unfold maxLen; omega) (by rw [World.size_alloc]; omega) ?_
      intro v' W4 hown4 hg4 hat4
      simp only [Act.put, List.getElem_toArray, List.getElem_cons_succ, List.getElem_cons_zero, List.setIfInBounds_toArray, List.set_cons_zero, List.set_cons_succ]
      have hgA := (World.grownBy_alloc W2 (.cells #[.int .i64 r.1] 3) v.ownBlock).trans hg4
      have hrowA : ∀ j, v.ownBlock = some j → AwayM w1.heap.size bb W2 j := fun j hj => (hvA2 j hj).1
      obtain ⟨hM4, hA4⟩ := hM2.grown hgA hrowA
      have hnv : ∀ j, j < W0.heap.size + 2 → some j ≠ v.ownBlock := fun j hj e => by have := (hvlt j e.symm).1; omega
      have ho4 : W4.cell? ⟨w1.heap.size + 1 + 1 + 1, 0, none⟩ = some v := hgA.cell ho2 (hnv (w1.heap.size + 1 + 1 + 1) (by omega))
      have hof4 : W4.frozen? ⟨w1.heap.size + 1 + 1 + 1, 0, none⟩ = false := (hgA.frozen_far ⟨w1.heap.size + 1 + 1 + 1, 0, none⟩ (by show w1.heap.size + 1 + 1 + 1 < _; omega) (hnv (w1.heap.size + 1 + 1 + 1) (by omega))).trans hof2
      have cf4 : W4.cell? ⟨w1.heap.size + 1 + 1, 0, none⟩ = some (.func (.func 88) #[] #[.pointer (some ⟨w1.heap.size + 1, 0, none⟩), .pointer (some ⟨w.heap.size, 0, none⟩)]) := hgA.cell cf2 (hnv (w1.heap.size + 1 + 1) (by omega))
      have hc4 : W4.cell? ⟨w.heap.size, 0, none⟩ = some (.int .i64 r.2.1) := hgA.cell hc2 (hnv w.heap.size (by omega))
      have hcf4 : W4.frozen? ⟨w.heap.size, 0, none⟩ = false := (hgA.frozen_far ⟨w.heap.size, 0, none⟩ (by show w.heap.size < _; omega) (hnv w.heap.size (by omega))).trans hcf2
      obtain ⟨pv, cv, rfl⟩ := own_slice hown4
      refine hK _ _ (.inr ⟨ho4, cf4⟩) ?_
      clear hK K
      refine wpHI_only 7 (by kernel_rfl) rfl ?_
      intro K hK
      go_simp
      refine hK _ _ (.inl rfl) ?_
      clear hK K
      refine wpHI_done (by kernel_rfl) ?_ _
      gi_wp2
      have hst : addStep st (x, y) = (st.1 ++ [r.1], r.2.1, r.2.2) := by rw [← hR]; rfl
      rw [hst]
      have hao4 : AwayM w1.heap.size bb W4 (w1.heap.size + 1 + 1 + 1) := hA4 _ (hfr2.keep _ ⟨hao, n1⟩).1
      obtain ⟨g1, g2, g3⟩ := hM4.far hao4 0 (Value.slice pv (k + 1) cv)
      have hstep : ∀ j, AwayM w1.heap.size bb W.drew j → j ≠ w.heap.size → j ≠ w1.heap.size + 1 + 1 + 1 → some j ≠ v.ownBlock →
          AwayM w1.heap.size bb (W4.setCell ⟨w1.heap.size + 1 + 1 + 1, 0, none⟩ (Value.slice pv (k + 1) cv)) j ∧ (W4.setCell ⟨w1.heap.size + 1 + 1 + 1, 0, none⟩ (Value.slice pv (k + 1) cv)).heap[j]? = W.drew.heap[j]? := fun j hj h1 h2 h3 => by
        obtain ⟨k1, k2⟩ := hfr2.keep j ⟨hj, h1⟩
        have k3 := hgA.block j k1.1.size h3
        obtain ⟨k4, k5⟩ := g2.keep j ⟨hA4 _ k1, h2⟩
        exact ⟨k4, k5.trans (k3.trans k2)⟩
      have hnew' : ∀ j, (Value.slice pv (k + 1) cv).ownBlock = some j → AwayM w1.heap.size bb W4 j ∧ w1.heap.size + 1 + 1 + 1 < j := fun j hj => by
        have hlt := (hown4.lt j hj)
        refine ⟨?_, by omega⟩
        rcases hat4 with e | e
        · rw [e] at hj; exact hA4 _ (hrowA j hj)
        · rw [e] at hj
          injection hj with hj
          have h1 : W2.heap.size < j := by rw [← hj, World.size_alloc]; omega
          exact hM2.grown_new hgA hrowA (by omega) hlt.2
      have hf' := hfr
      refine ⟨⟨(hstep _ hlp.1 (by omega) (by omega) (hnv _ (by omega))).2, (hstep _ hlp.2 (by omega) (by omega) (hnv _ (by omega))).2⟩, fun j hj => (hstep j (hfr.keep j hj).1.1 hj.2.1 hj.2.2 (hnv _ (by have := hj.1.1.size; omega))).2, ?_⟩
      refine ⟨g1, g3 _ (hA4 _ hac2), g3 _ hao4, ?_, ?_, ⟨_, World.cell?_setCell_same (a := ⟨w1.heap.size + 1 + 1 + 1, 0, none⟩) (v := Value.slice pv (k + 1) cv) _ ho4, ?_, ?_, fun j hj => g3 _ (hnew' j hj).1⟩,
        ⟨(hstep _ hlp.1 (by omega) (by omega) (hnv _ (by omega))).1, (hstep _ hlp.2 (by omega) (by omega) (hnv _ (by omega))).1⟩, ?_⟩
      · exact (World.cell?_of_block (a := ⟨w.heap.size, 0, none⟩) (Below.heap_setCell _ _ _ _ (by show w.heap.size ≠ w1.heap.size + 1 + 1 + 1; omega))).trans hc4
      · rw [World.frozen?_setCell]; exact hcf4
      · rw [World.frozen?_setCell]; exact hof4
      · rw [List.map_append]
        exact owns_keep hown4 fun j hj => Below.heap_setCell _ _ _ _ (by have := (hnew' j hj).2; show j ≠ w1.heap.size + 1 + 1 + 1; omega)
      · exact ⟨g2.os.trans (hgA.os.trans (hfr2.os.trans hfr.os)), g2.tape.trans (hgA.tape.trans (hfr2.tape.trans hfr.tape)), g2.output.trans (hgA.output.trans (hfr2.output.trans hfr.output)),
          Nat.le_trans hfr.size (Nat.le_trans hfr2.size (Nat.le_trans hgA.size g2.size)), fun j hj => by
            obtain ⟨k1, k2⟩ := hfr.keep j hj
            obtain ⟨k3, k4⟩ := hstep j k1.1 k1.2.1 k1.2.2 (hnv _ (by have := hj.1.1.size; omega))
            exact ⟨⟨k3, k1.2⟩, k4.trans k2⟩⟩
    case done =>
      intro D W hD hI hdef
      rw [show (xs.zip ys).take xs.length = xs.zip ys from List.take_of_length_le (by rw [List.length_zip]; omega)] at hI
      have hlen : (addF (F, 0) carry (xs.zip ys)).1.length = xs.length := by rw [addF_len, List.length_zip]; have := HYL.out; omega
      have hok := addF_ok (F, 0) carry (xs.zip ys) hv hbc (fun z hz => by
        have := List.of_mem_zip hz
        exact ⟨hbx _ this.1, hby _ this.2⟩)
      generalize addF (F, 0) carry (xs.zip ys) = st at *
      obtain ⟨hM, hac, hao, hc, hcf', ⟨v, ho, hof, hown, hvA⟩, hlp, hfr⟩ := hI
      obtain ⟨pv, cv, rfl⟩ := own_slice hown
      have km := hfr.keep (w1.heap.size + 1) ⟨⟨hnew 1 (by omega), by omega⟩, by omega, by omega⟩
      have cm : W.cell? ⟨w1.heap.size + 1, 0, none⟩ = some (.pointer (some ⟨w1.heap.size, 0, none⟩)) := by simp only [World.cell?, km.2, q1]; rfl
      have c1 : W.cell? ⟨w1.heap.size, 1, none⟩ = some (.int .i64 st.2.2.2) := by simp only [World.cell?, hM.blk]; rfl
      have hword := word_any w1.heap.size st.2.2.2 pv xs.length cv W c1
      obtain ⟨p', n', c', hvr⟩ : ∃ p' n' c', (if st.2.2.2 = 0 then Value.slice pv xs.length cv else .slice none 0 0) = .slice p' n' c' := by split <;> exact ⟨_, _, _, rfl⟩
      rw [hvr] at hword
      have HWORD := hid hword; clear hword
      have HVR := hid hvr; clear hvr
      gi_wp2_with fail
      refine ⟨trivial, ?_⟩
      refine (callsIn_wide.2 HWORD.out).mono ?_
      rintro e W3 ⟨rfl, hb3⟩
      gi_wp2_with fail
      have hdef3 : W3.heap[D]? = some (.deferred (some [])) := (hb3.block D (Array.getElem?_eq_some_iff.1 hdef).1).trans hdef
      refine ⟨by simp, .inl ⟨_, _, rfl, run_takeDeferred hdef3, ?_⟩⟩
      have hDlt := (Array.getElem?_eq_some_iff.1 hdef).1
      have hg5 : W3.grownBy (W3.putObj D (.deferred none)) (some D) := grownBy_putObj' W3 D _
      have hcl : Cl W (W3.putObj D (.deferred none)) := by
        have h1 : Cl W W3 := Cl.of (row := none) ⟨hb3.os, hb3.tape, hb3.output, hb3.size, fun k hk _ => hb3.block k hk⟩ (fun r e => by cases e)
        have h2 : Cl W3 (W3.putObj D (.deferred none)) := Cl.of hg5 (fun r e => by cases e; exact ⟨_, hdef3, rfl⟩)
        exact ⟨h2.os.trans h1.os, h2.tape.trans h1.tape, h2.output.trans h1.output, Nat.le_trans h1.size h2.size, fun k c t fz hk => h2.keep _ _ _ _ (h1.keep _ _ _ _ hk)⟩
      obtain ⟨hM5, hA5⟩ := hcl.isM hM
      have hfr5 : FrB bb w (W3.putObj D (.deferred none)) := ⟨hcl.os.trans (hfr.os.trans hfw.os), hcl.tape.trans (hfr.tape.trans hfw.tape), hcl.output.trans (hfr.output.trans hfw.output),
        Nat.le_trans hfw.size (Nat.le_trans hfr.size hcl.size), fun j hj => by
          have hjl := hj.size
          obtain ⟨k1, k2⟩ := hfw.keep j hj
          obtain ⟨k3, k4⟩ := hfr.keep j ⟨⟨k1, by omega⟩, by omega, by omega⟩
          exact ⟨(hA5 _ k3.1).1, (hg5.block j (by have := hb3.size; have := k3.1.1.size; omega) (fun e => by injection e with e; omega)).trans ((hb3.block j k3.1.1.size).trans (k4.trans k2))⟩⟩
      refine ⟨.tuple #[.slice p' n' c', .int .i64 st.2.2.2], by simp [results, Try.results25, go_sem], ?_⟩
      rw [HRES.out]
      by_cases hz : st.2.2.2 = 0
      · rw [if_pos hz]
        have e := HVR.out
        rw [if_pos hz] at e
        refine ⟨_, by rw [hz], ?_, hM5.b, hfr5⟩
        rw [← e]
        exact Sl.of_owns (hcl.owns hown) (by omega) (fun j hj => (hA5 _ (hvA j hj)).1)
      · rw [if_neg hz]
        have e := HVR.out
        rw [if_neg hz] at e
        refine ⟨_, rfl, ?_, hM5.b, hfr5⟩
        rw [← e]
        exact Sl.nil
  · have e : addM F xs ys carry = ([], checkM F [carry] [xs, ys], F) := by simp [addM, hc0]
    rw [e]; clear e
    have hd : (checkM F [carry] [xs, ys] != 0) = true := by simp [hc0]
    generalize checkM F [carry] [xs, ys] = er at *
    have H0 := hid hc0; clear hc0
    go_enter Try.func25, Try.ntmps25
    go_wp2_with (go_at_call 87; refine HCK.out.mono ?_; rintro e w1 ⟨rfl, hB2, hf2⟩)
    go_ret2
    exact ⟨_, rfl, Sl.nil, hB2, HF1.out.trans hf2⟩

end Go.Proofs.Ytngimdbjcelkeaa
