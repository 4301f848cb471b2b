/-
  The law ReportExamples.
-/
import Derived.Test.YtehjfmbnebeioaaDoorReY
import Derived.Test.YtehjfmbnebeioaaDoorRpB
namespace Go.Proofs.YtehjfmbnebeioaaDoor
set_option linter.unusedSimpArgs false
set_option linter.unusedVariables false
open Go.RowKit Go.Shelf
attribute [local go_sem] Oper.semAt_some

/-- Four may come up: any of them. -/
theorem wpHJ_four {Fe : Fence} {n : Nat} {P : Program} {ops : Array Oper} {Q : Exit → Act → World → Prop} {md : Region.Mode} {S : World → Prop} (i j l m : Nat) {z : Nat} {oi oj ol om : Oper} {fuel : Nat} {listed : Array Bool} {a : Act} {w : World} (hr : Region.ready md ops listed = [i, j, l, m]) (hi : ops[i]? = some oi) (hj : ops[j]? = some oj) (hl : ops[l]? = some ol) (hm : ops[m]? = some om)
    (h1 : ∀ K : Act → World → Prop, (∀ a' w', (i = z ∨ listed.getD z false = true ∨ S w') → wpHJ Fe n P md ops Q S z fuel (listed.setIfInBounds i true) a' w' → K a' w') →
      if Region.wanted oi (yielded ops a.tmps) then oi.wpIn Fe n P a w K Q else (∀ f, oi.about P w a.eval = some f → Fe.fn f) ∧ K (a.put oi.dst undef) w)
    (h2 : ∀ K : Act → World → Prop, (∀ a' w', (j = z ∨ listed.getD z false = true ∨ S w') → wpHJ Fe n P md ops Q S z fuel (listed.setIfInBounds j true) a' w' → K a' w') →
      if Region.wanted oj (yielded ops a.tmps) then oj.wpIn Fe n P a w K Q else (∀ f, oj.about P w a.eval = some f → Fe.fn f) ∧ K (a.put oj.dst undef) w)
    (h3 : ∀ K : Act → World → Prop, (∀ a' w', (l = z ∨ listed.getD z false = true ∨ S w') → wpHJ Fe n P md ops Q S z fuel (listed.setIfInBounds l true) a' w' → K a' w') →
      if Region.wanted ol (yielded ops a.tmps) then ol.wpIn Fe n P a w K Q else (∀ f, ol.about P w a.eval = some f → Fe.fn f) ∧ K (a.put ol.dst undef) w)
    (h4 : ∀ K : Act → World → Prop, (∀ a' w', (m = z ∨ listed.getD z false = true ∨ S w') → wpHJ Fe n P md ops Q S z fuel (listed.setIfInBounds m true) a' w' → K a' w') →
      if Region.wanted om (yielded ops a.tmps) then om.wpIn Fe n P a w K Q else (∀ f, om.about P w a.eval = some f → Fe.fn f) ∧ K (a.put om.dst undef) w) :
    wpHJ Fe n P md ops Q S z (fuel + 1) listed a w := by
  refine ⟨fun h0 => (by rw [h0] at hr; cases hr), fun k hk => ?_⟩
  rw [hr] at hk
  simp only [List.mem_cons, List.not_mem_nil, or_false] at hk
  rcases hk with rfl | rfl | rfl | rfl
  · unfold wpOpIn
    simp only [hi]
    exact h1 _ (fun a' w' h1 h2 => ⟨h1, h2⟩)
  · unfold wpOpIn
    simp only [hj]
    exact h2 _ (fun a' w' h1 h2 => ⟨h1, h2⟩)
  · unfold wpOpIn
    simp only [hl]
    exact h3 _ (fun a' w' h1 h2 => ⟨h1, h2⟩)
  · unfold wpOpIn
    simp only [hm]
    exact h4 _ (fun a' w' h1 h2 => ⟨h1, h2⟩)
theorem gen_HJ {Fe : Fence} {n : Nat} {P : Program} {ops : Array Oper} {Q : Exit → Act → World → Prop} {md : Region.Mode} {S : World → Prop} {z fuel : Nat} {listed : Array Bool} {a : Act} {w : World}
    (h : ∀ (G : Nat → Array Bool → Act → World → Prop) (a0 : Act), a0 = a → (∀ f l a w, G f l a w ↔ wpHJ Fe n P md ops Q S z f l a w) → (∀ f l l' a w, l' = l → G f l' a w → wpHJ Fe n P md ops Q S z f l a w) → G fuel listed a0 w) : wpHJ Fe n P md ops Q S z fuel listed a w :=
  h (fun f l a w => wpHJ Fe n P md ops Q S z f l a w) a rfl (fun _ _ _ _ => Iff.rfl) (fun _ _ _ _ _ e h => e ▸ h)
theorem made_row {q : Nat} (h : q ≤ 3) (W : World) : (Instr.makeSlice 29 (.int .i64 (q : Int)) (.int .i64 (q : Int))).run Tryd.prog W = .ok (.slice (some ⟨W.heap.size, 0, none⟩) q q) (W.alloc (.cells (madeCells #[.slice none 0 0] q) 36)) := by
  have hi := info_nlC
  rcases hx : Tryd.prog.info? 36 with _ | i
  · rw [hx] at hi; cases hi
  · rw [hx] at hi
    simp only [Option.map_some, Option.some.injEq, Prod.mk.injEq] at hi
    obtain ⟨z1, z2, z3⟩ := hi
    have hb : (i.bytes : Int) * (q : Int) ≤ 281474976710656 := by rw [z3]; omega
    have hr := run_make (P := Tryd.prog) W 29 36 i _ Tryd.underlying29 hx z1 .i64 .i64 (q : Int) (q : Int) (by omega) (by omega) hb (by omega)
    simp only [Int.toNat_natCast, z2, Nat.mul_one] at hr
    exact hr
theorem nums_al {w : World} {v : Value} {l : List Nat} (h : Nums (fun i => i < w.heap.size) w v l) (o : Obj) : Nums (fun i => i < (w.alloc o).heap.size) (w.alloc o) v l :=
  h.keep fun i hi => ⟨by rw [World.size_alloc]; omega, by rw [heap_al, if_neg (by omega)]⟩
theorem nll_al {w : World} {v : Value} {l : List (List Nat)} (h : NLL (fun i => i < w.heap.size) w v l) (o : Obj) : NLL (fun i => i < (w.alloc o).heap.size) (w.alloc o) v l :=
  h.keep fun i hi => ⟨by rw [World.size_alloc]; omega, by rw [heap_al, if_neg (by omega)]⟩
theorem madeCells_rep (q : Nat) : madeCells #[.slice none 0 0] q = (List.replicate q (.slice none 0 0)).toArray := by
  unfold madeCells
  apply Array.ext
  · simp
  · intro j h1 h2
    simp [Nat.mod_one]
theorem nll_made (w : World) (q : Nat) (hq : q ≤ 3) (t : TypeId) : NLL (fun i => i < (w.alloc (.cells (madeCells #[.slice none 0 0] q) t)).heap.size) (w.alloc (.cells (madeCells #[.slice none 0 0] q) t)) (.slice (some ⟨w.heap.size, 0, none⟩) q q) (List.replicate q []) := by
  rw [madeCells_rep]
  refine ⟨List.replicate q (.slice none 0 0), ⟨_, q, by rw [List.length_replicate], by simp, by unfold maxLen; omega, by rw [List.length_replicate]; omega, RowR.lit w _ t (by rw [World.size_alloc]; omega)⟩, by simp, fun j h1 h2 => ?_⟩
  rw [List.getElem_replicate, List.getElem_replicate]
  exact ⟨none, 0, rfl, Nat.le_refl _, by unfold maxLen; omega, by simp, .inl rfl⟩
theorem nums_made0 (w : World) (t : TypeId) : Nums (fun i => i < (w.alloc (.cells #[] t)).heap.size) (w.alloc (.cells #[] t)) (.slice (some ⟨w.heap.size, 0, none⟩) 0 0) [] :=
  ⟨_, 0, rfl, Nat.le_refl _, by unfold maxLen; omega, by simp, .inl rfl⟩
theorem nums_lit2 (w : World) (a b : Nat) (t : TypeId) : Nums (fun i => i < (w.alloc (.cells #[.int .u64 (a : Int), .int .u64 (b : Int)] t)).heap.size) (w.alloc (.cells #[.int .u64 (a : Int), .int .u64 (b : Int)] t)) (.slice (some ⟨w.heap.size, 0, none⟩) 2 2) [a, b] :=
  ⟨_, 2, rfl, Nat.le_refl _, by unfold maxLen; omega, by simp, RowR.lit w [nV a, nV b] t (by rw [World.size_alloc]; omega)⟩
theorem nll_two (w : World) {va vb : Value} {a b : List Nat} (ha : Nums (fun i => i < w.heap.size) w va a) (hb : Nums (fun i => i < w.heap.size) w vb b) (t : TypeId) : NLL (fun i => i < (w.alloc (.cells #[va, vb] t)).heap.size) (w.alloc (.cells #[va, vb] t)) (.slice (some ⟨w.heap.size, 0, none⟩) 2 2) [a, b] := by
  refine ⟨[va, vb], ⟨_, 2, rfl, Nat.le_refl _, by unfold maxLen; omega, by simp, RowR.lit w [va, vb] t (by rw [World.size_alloc]; omega)⟩, rfl, fun j h1 h2 => ?_⟩
  obtain rfl | rfl : j = 0 ∨ j = 1 := by simp at h1; omega
  · exact nums_al ha _
  · exact nums_al hb _
/-- The seven verdicts of one round. -/
def Sev (W0 : World) (kd i q4 d4 r3 : Nat) (E6 ED : Int) (b2 : Bool) (s : Value) (W : World) : Prop :=
  ∃ n n41 n44 n67 : Nat, s = .slice (some ⟨n, 0, none⟩) 7 7 ∧ W.heap[n]? = some (.cells #[.int .u8 (kd : Int), .int .u8 (i : Int), .int .i64 0, .slice none 0 0, .slice none 0 0, .bool false, .bool false, .int .i64 0, .int .i64 0, .int .i64 0, .int .u8 (kd : Int), .int .u8 0, .int .i64 0, .slice none 0 0, .slice none 0 0, .bool false, .bool b2, .int .i64 0, .int .i64 0, .int .i64 ((i : Int) - 1), .int .u8 (kd : Int), .int .u8 0, .int .i64 ((i : Int) - 4), .slice none 0 0, .slice none 0 0, .bool b2, .bool false, .int .i64 0, .int .i64 0, .int .i64 0, .int .u8 (kd : Int), .int .u8 0, .int .i64 0, .slice (some ⟨n41, 0, none⟩) q4 q4, .slice (some ⟨n44, 0, none⟩) d4 d4, .bool false, .bool false, .int .i64 0, .int .i64 0, .int .i64 0, .int .u8 (kd : Int), .int .u8 0, .int .i64 0, .slice none 0 0, .slice none 0 0, .bool false, .bool true, .int .i64 0, .int .i64 0, .int .i64 0, .int .u8 (kd : Int), .int .u8 0, .int .i64 0, .slice none 0 0, .slice none 0 0, .bool false, .bool false, .int .i64 E6, .int .i64 ED, .int .i64 4, .int .u8 (kd : Int), .int .u8 0, .int .i64 (r3 : Int), .slice (some ⟨n67, 0, none⟩) 2 2, .slice none 0 0, .bool false, .bool false, .int .i64 0, .int .i64 0, .int .i64 0] 35 (0, 0)) ∧ NLL (fun i => i < W.heap.size) W (.slice (some ⟨n41, 0, none⟩) q4 q4) (List.replicate q4 []) ∧ NLL (fun i => i < W.heap.size) W (.slice (some ⟨n44, 0, none⟩) d4 d4) (List.replicate d4 []) ∧ NLL (fun i => i < W.heap.size) W (.slice (some ⟨n67, 0, none⟩) 2 2) [[], [18446744073709551615, i]] ∧ Below W0.heap.size W0 W
theorem sev_of {W0 W W' : World} {kd i q4 d4 r3 n41 n44 n67 : Nat} {E6 ED : Int} {b2 : Bool} (hw : W' = W.alloc (.cells #[.int .u8 (kd : Int), .int .u8 (i : Int), .int .i64 0, .slice none 0 0, .slice none 0 0, .bool false, .bool false, .int .i64 0, .int .i64 0, .int .i64 0, .int .u8 (kd : Int), .int .u8 0, .int .i64 0, .slice none 0 0, .slice none 0 0, .bool false, .bool b2, .int .i64 0, .int .i64 0, .int .i64 ((i : Int) - 1), .int .u8 (kd : Int), .int .u8 0, .int .i64 ((i : Int) - 4), .slice none 0 0, .slice none 0 0, .bool b2, .bool false, .int .i64 0, .int .i64 0, .int .i64 0, .int .u8 (kd : Int), .int .u8 0, .int .i64 0, .slice (some ⟨n41, 0, none⟩) q4 q4, .slice (some ⟨n44, 0, none⟩) d4 d4, .bool false, .bool false, .int .i64 0, .int .i64 0, .int .i64 0, .int .u8 (kd : Int), .int .u8 0, .int .i64 0, .slice none 0 0, .slice none 0 0, .bool false, .bool true, .int .i64 0, .int .i64 0, .int .i64 0, .int .u8 (kd : Int), .int .u8 0, .int .i64 0, .slice none 0 0, .slice none 0 0, .bool false, .bool false, .int .i64 E6, .int .i64 ED, .int .i64 4, .int .u8 (kd : Int), .int .u8 0, .int .i64 (r3 : Int), .slice (some ⟨n67, 0, none⟩) 2 2, .slice none 0 0, .bool false, .bool false, .int .i64 0, .int .i64 0, .int .i64 0] 35)) (h1 : NLL (fun i => i < W.heap.size) W (.slice (some ⟨n41, 0, none⟩) q4 q4) (List.replicate q4 [])) (h2 : NLL (fun i => i < W.heap.size) W (.slice (some ⟨n44, 0, none⟩) d4 d4) (List.replicate d4 [])) (h3 : NLL (fun i => i < W.heap.size) W (.slice (some ⟨n67, 0, none⟩) 2 2) [[], [18446744073709551615, i]]) (_ : Below W0.heap.size W0 W) (hb : Below W0.heap.size W0 W') : Sev W0 kd i q4 d4 r3 E6 ED b2 (.slice (some ⟨W.heap.size, 0, none⟩) 7 7) W' := by
  subst hw
  exact ⟨_, n41, n44, n67, rfl, by rw [heap_al, if_pos rfl], nll_al h1 _, nll_al h2 _, nll_al h3 _, hb⟩
def endsL : List Int := [-9223372036854775808, -1, 0, 1, 2, 9223372036854775807]
theorem strs_blk {w : World} {b : Nat} {cs : Array Value} {t : TypeId} {f : Nat × Nat} (h : w.heap[b]? = some (.cells cs t f)) {l : List By} (n c : Nat) (hn : n = l.length) (h1 : n ≤ c) (h2 : c ≤ maxLen) (h3 : n ≤ 140737488355328) (hc : ∀ j (hj : j < l.length), w.cell? ⟨b, j, none⟩ = some (sV l[j])) : Strs (fun i => i < w.heap.size) w (.slice (some ⟨b, 0, none⟩) n c) l := by
  subst hn
  exact ⟨_, c, by rw [List.length_map], by simpa using h1, h2, by simpa using h3, .inr ⟨b, 0, rfl, (Array.getElem?_eq_some_iff.1 h).1, fun j hj => by rw [Nat.zero_add, hc j (by simpa using hj), List.getElem_map]⟩⟩
/-- The ten cells of a verdict that stands in a row. -/
def So (g o : Nat) (x : Vd) (pA : Option Addr) (cA : Nat) (pB : Option Addr) (cB : Nat) (W : World) : Prop :=
  W.cell? ⟨g, o, none⟩ = some (.int .u8 (x.kind : Int)) ∧ W.cell? ⟨g, o + 1, none⟩ = some (.int .u8 (x.reason : Int)) ∧ W.cell? ⟨g, o + 2, none⟩ = some (.int .i64 x.level) ∧ W.cell? ⟨g, o + 3, none⟩ = some (.slice pA x.A.length cA) ∧ W.cell? ⟨g, o + 4, none⟩ = some (.slice pB x.B.length cB) ∧ W.cell? ⟨g, o + 5, none⟩ = some (.bool x.imp) ∧ W.cell? ⟨g, o + 6, none⟩ = some (.bool x.pol) ∧ W.cell? ⟨g, o + 7, none⟩ = some (.int .i64 x.line) ∧ W.cell? ⟨g, o + 8, none⟩ = some (.int .i64 x.col) ∧ W.cell? ⟨g, o + 9, none⟩ = some (.int .i64 x.err)
theorem So.below {g o : Nat} {x : Vd} {pA : Option Addr} {cA : Nat} {pB : Option Addr} {cB : Nat} {W W' : World} (h : So g o x pA cA pB cB W) (hb : Below W.heap.size W W') : So g o x pA cA pB cB W' := by
  obtain ⟨h0, h1, h2, h3, h4, h5, h6, h7, h8, h9⟩ := h
  exact ⟨(hb.cell (cell_size h0)).trans h0, (hb.cell (cell_size h1)).trans h1, (hb.cell (cell_size h2)).trans h2, (hb.cell (cell_size h3)).trans h3, (hb.cell (cell_size h4)).trans h4, (hb.cell (cell_size h5)).trans h5, (hb.cell (cell_size h6)).trans h6, (hb.cell (cell_size h7)).trans h7, (hb.cell (cell_size h8)).trans h8, (hb.cell (cell_size h9)).trans h9⟩
theorem endsL_in (q : Nat) (h : q < endsL.length) : -9223372036854775808 ≤ endsL[q] ∧ endsL[q] ≤ 9223372036854775807 := by
  have hq : q < 6 := h
  obtain rfl | rfl | rfl | rfl | rfl | rfl : q = 0 ∨ q = 1 ∨ q = 2 ∨ q = 3 ∨ q = 4 ∨ q = 5 := by omega
  all_goals (constructor <;> simp [endsL])
theorem Sev.at {W0 W : World} {kd i q4 d4 r3 : Nat} {E6 ED : Int} {b2 : Bool} {s : Value} (h : Sev W0 kd i q4 d4 r3 E6 ED b2 s W) (hk : kd ≤ 5) (hi : i < 12) (hq : q4 ≤ 3) (hd : d4 ≤ 2) (hr : r3 ≤ 2) (h6 : -9223372036854775808 ≤ E6 ∧ E6 ≤ 9223372036854775807) (hD : -9223372036854775808 ≤ ED ∧ ED ≤ 9223372036854775807) :
    ∃ n, s = .slice (some ⟨n, 0, none⟩) 7 7 ∧ Below W0.heap.size W0 W ∧ ∀ k, k < 7 → ∃ (x : Vd) (pA : Option Addr) (cA : Nat) (pB : Option Addr) (cB : Nat), VdOk x ∧ (x.A.length ≤ 10 ∧ x.B.length ≤ 10 ∧ (∀ l ∈ x.A, l.length ≤ 20) ∧ ∀ l ∈ x.B, l.length ≤ 20) ∧ NLL (fun i => i < W.heap.size) W (.slice pA x.A.length cA) x.A ∧ NLL (fun i => i < W.heap.size) W (.slice pB x.B.length cB) x.B ∧ So n (k * 10) x pA cA pB cB W := by
  obtain ⟨n, n41, n44, n67, rfl, hc, ha, hb, h2, hB⟩ := h
  refine ⟨n, rfl, hB, fun k hk7 => ?_⟩
  have nil : ∀ c, NLL (fun i => i < W.heap.size) W (.slice none 0 c) [] → True := fun _ _ => trivial
  have NN : NLL (fun i => i < W.heap.size) W (.slice none ([] : List (List Nat)).length 0) [] := ⟨[], ⟨none, 0, rfl, Nat.le_refl _, by unfold maxLen; omega, by simp, .inl rfl⟩, rfl, fun i h => absurd h (Nat.not_lt_zero i)⟩
  have cl : ∀ j, W.cell? ⟨n, j, none⟩ = _ := fun j => cell_of_row W n j _ _ _ hc
  clear nil
  obtain rfl | rfl | rfl | rfl | rfl | rfl | rfl : k = 0 ∨ k = 1 ∨ k = 2 ∨ k = 3 ∨ k = 4 ∨ k = 5 ∨ k = 6 := by omega
  · refine ⟨⟨kd, i, 0, [], [], false, false, 0, 0, 0⟩, none, 0, none, 0, ⟨?_, ?_, ?_, ?_, ?_, ?_, ?_, ?_⟩, ⟨?_, ?_, ?_, ?_⟩, NN, NN, ⟨?_, ?_, ?_, ?_, ?_, ?_, ?_, ?_, ?_, ?_⟩⟩
    all_goals (first | (rw [cl]; simp; done) | (rw [cl]; rfl) | (dsimp only; omega) | (simp; done) | (simp; omega))
  · refine ⟨⟨kd, 0, 0, [], [], false, b2, 0, 0, (i : Int) - 1⟩, none, 0, none, 0, ⟨?_, ?_, ?_, ?_, ?_, ?_, ?_, ?_⟩, ⟨?_, ?_, ?_, ?_⟩, NN, NN, ⟨?_, ?_, ?_, ?_, ?_, ?_, ?_, ?_, ?_, ?_⟩⟩
    all_goals (first | (rw [cl]; simp; done) | (rw [cl]; rfl) | (dsimp only; omega) | (simp; done) | (simp; omega))
  · refine ⟨⟨kd, 0, (i : Int) - 4, [], [], b2, false, 0, 0, 0⟩, none, 0, none, 0, ⟨?_, ?_, ?_, ?_, ?_, ?_, ?_, ?_⟩, ⟨?_, ?_, ?_, ?_⟩, NN, NN, ⟨?_, ?_, ?_, ?_, ?_, ?_, ?_, ?_, ?_, ?_⟩⟩
    all_goals (first | (rw [cl]; simp; done) | (rw [cl]; rfl) | (dsimp only; omega) | (simp; done) | (simp; omega))
  · refine ⟨⟨kd, 0, 0, List.replicate q4 [], List.replicate d4 [], false, false, 0, 0, 0⟩, some ⟨n41, 0, none⟩, q4, some ⟨n44, 0, none⟩, d4, ⟨?_, ?_, ?_, ?_, ?_, ?_, ?_, ?_⟩, ⟨?_, ?_, ?_, ?_⟩, (show NLL _ _ (.slice _ (List.replicate q4 []).length _) _ from by rw [List.length_replicate]; exact ha), (show NLL _ _ (.slice _ (List.replicate d4 []).length _) _ from by rw [List.length_replicate]; exact hb), ⟨?_, ?_, ?_, ?_, ?_, ?_, ?_, ?_, ?_, ?_⟩⟩
    all_goals (first | (rw [cl]; simp; done) | (rw [cl]; rfl) | (dsimp only; omega) | (simp; done) | (simp; omega))
  · refine ⟨⟨kd, 0, 0, [], [], false, true, 0, 0, 0⟩, none, 0, none, 0, ⟨?_, ?_, ?_, ?_, ?_, ?_, ?_, ?_⟩, ⟨?_, ?_, ?_, ?_⟩, NN, NN, ⟨?_, ?_, ?_, ?_, ?_, ?_, ?_, ?_, ?_, ?_⟩⟩
    all_goals (first | (rw [cl]; simp; done) | (rw [cl]; rfl) | (dsimp only; omega) | (simp; done) | (simp; omega))
  · refine ⟨⟨kd, 0, 0, [], [], false, false, E6, ED, 4⟩, none, 0, none, 0, ⟨?_, ?_, ?_, ?_, ?_, ?_, ?_, ?_⟩, ⟨?_, ?_, ?_, ?_⟩, NN, NN, ⟨?_, ?_, ?_, ?_, ?_, ?_, ?_, ?_, ?_, ?_⟩⟩
    all_goals (first | (rw [cl]; simp; done) | (rw [cl]; rfl) | (dsimp only; omega) | (simp; done) | (simp; omega))
  · refine ⟨⟨kd, 0, (r3 : Int), [[], [18446744073709551615, i]], [], false, false, 0, 0, 0⟩, some ⟨n67, 0, none⟩, 2, none, 0, ⟨?_, ?_, ?_, ?_, ?_, ?_, ?_, ?_⟩, ⟨?_, ?_, ?_, ?_⟩, h2, NN, ⟨?_, ?_, ?_, ?_, ?_, ?_, ?_, ?_, ?_, ?_⟩⟩
    all_goals (first | (rw [cl]; simp; done) | (rw [cl]; rfl) | (dsimp only; omega) | (simp; done) | (simp; omega))
set_option maxRecDepth 100000 in
set_option maxHeartbeats 8000000 in
/-- The law ReportExamples. -/
theorem repexamples_walk (w : World) (ht : Tabs w) :
    Calls Tryd.prog 4 #[] w fun e w' => e = .returned (.bool true) ∧ Below w.heap.size w w' := by
  have HT := hid ht
  clear ht
  go_enter Tryd.func4, Tryd.ntmps4
  go_upto_region 3 with fail
  obtain ⟨w3, hw3⟩ : ∃ W, ((w.alloc (.cells #[.string ⟨#[108, 111, 119]⟩, .string ⟨#[104, 105, 103, 104]⟩] 9)).alloc (.cells #[.string ⟨#[112, 117, 98]⟩, .string ⟨#[115, 101, 99]⟩] 9)).alloc (.cells #[.int .i64 (-9223372036854775808), .int .i64 (-1), .int .i64 0, .int .i64 1, .int .i64 2, .int .i64 9223372036854775807] 3) = W := ⟨_, rfl⟩
  have hz3 : w3.heap.size = w.heap.size + 1 + 1 + 1 := by rw [← hw3]; simp only [World.size_alloc]
  have hb3 : Below w.heap.size w w3 := by rw [← hw3]; exact (((Below.refl _ _).alloc (Nat.le_refl _) _).alloc (by rw [World.size_alloc]; omega) _).alloc (by simp only [World.size_alloc]; omega) _
  have hc2 : w3.heap[w.heap.size + 1 + 1]? = some (.cells #[.int .i64 (-9223372036854775808), .int .i64 (-1), .int .i64 0, .int .i64 1, .int .i64 2, .int .i64 9223372036854775807] 3 (0, 0)) := by rw [← hw3, heap_al, if_pos (by simp only [World.size_alloc])]
  have hc1 : w3.heap[w.heap.size + 1]? = some (.cells #[.string ⟨#[112, 117, 98]⟩, .string ⟨#[115, 101, 99]⟩] 9 (0, 0)) := by rw [← hw3, heap_al, if_neg (by simp only [World.size_alloc]; omega), heap_al, if_pos (by simp only [World.size_alloc])]
  have hc0 : w3.heap[w.heap.size]? = some (.cells #[.string ⟨#[108, 111, 119]⟩, .string ⟨#[104, 105, 103, 104]⟩] 9 (0, 0)) := by rw [← hw3, heap_al, if_neg (by simp only [World.size_alloc]; omega), heap_al, if_neg (by simp only [World.size_alloc]; omega), heap_al, if_pos rfl]
  rw [hw3]
  clear hw3
  have HB3 := hid hb3
  have HT3 := hid (HT.out.below hb3)
  have HZ := hid (show w.heap.size + 1 + 1 < w3.heap.size by omega)
  have HEN := hid (show ∀ q (h : q < 6), w3.cell? ⟨w.heap.size + 1 + 1, q, none⟩ = some (.int .i64 (endsL[q]'h)) from fun q h => by
    rw [cell_of_row w3 _ q _ _ _ hc2]
    obtain rfl | rfl | rfl | rfl | rfl | rfl : q = 0 ∨ q = 1 ∨ q = 2 ∨ q = 3 ∨ q = 4 ∨ q = 5 := by omega
    all_goals rfl)
  have HSL3 := hid (show Strs (fun i => i < w3.heap.size) w3 (.slice (some ⟨w.heap.size, 0, none⟩) 2 2) [[108, 111, 119], [104, 105, 103, 104]] from strs_blk hc0 2 2 rfl (by decide) (by unfold maxLen; omega) (by decide) (fun j hj => by rw [cell_of_row w3 _ j _ _ _ hc0]; obtain rfl | rfl : j = 0 ∨ j = 1 := (by simp at hj; omega) <;> rfl))
  have HSC3 := hid (show Strs (fun i => i < w3.heap.size) w3 (.slice (some ⟨w.heap.size + 1, 0, none⟩) 2 2) [[112, 117, 98], [115, 101, 99]] from strs_blk hc1 2 2 rfl (by decide) (by unfold maxLen; omega) (by decide) (fun j hj => by rw [cell_of_row w3 _ j _ _ _ hc1]; obtain rfl | rfl : j = 0 ∨ j = 1 := (by simp at hj; omega) <;> rfl))
  have HSP3 := hid (show Strs (fun i => i < w3.heap.size) w3 (.slice (some ⟨w.heap.size + 1, 0, none⟩) 1 2) [[112, 117, 98]] from strs_blk hc1 1 2 rfl (by decide) (by unfold maxLen; omega) (by decide) (fun j hj => by rw [cell_of_row w3 _ j _ _ _ hc1]; obtain rfl : j = 0 := (by simp at hj; omega); rfl))
  clear hb3 hc0 hc1 hc2 hz3
  go_wp2_with fail
  go_loopw [4] (fun kv W => ∃ kd : Nat, kd ≤ 6 ∧ kv = .int .u8 (kd : Int) ∧ Below w3.heap.size w3 W) (fun kv _ => 6 - (intOf kv).toNat)
  case atStart => exact ⟨0, by omega, rfl, Below.refl _ _⟩
  case round =>
    obtain ⟨kd, hkd, rfl, hbk⟩ := hrel
    obtain ⟨wk, rfl⟩ : ∃ w : World, w = wr := ⟨_, rfl⟩
    have HBK := hid hbk
    clear hbk
    by_cases hk6 : kd < 6
    · have t1 : decide ((kd : Int) < 6) = true := decide_eq_true (by omega)
      go_wp2_with fail
      go_loopw [5] (fun iv W => ∃ i : Nat, i ≤ 12 ∧ iv = .int .i64 (i : Int) ∧ Below w3.heap.size w3 W) (fun iv _ => 12 - (intOf iv).toNat)
      case atStart => exact ⟨0, by omega, rfl, HBK.out⟩
      case round =>
        obtain ⟨i, hi, rfl, hbi⟩ := hrel
        obtain ⟨wl, rfl⟩ : ∃ w : World, w = wr := ⟨_, rfl⟩
        have HBL := hid hbi
        clear hbi
        by_cases hlt : i < 12
        · have t2 : decide ((i : Int) < 12) = true := decide_eq_true (by omega)
          go_upto_region 9 with fail
          have hi12 : i < 12 := by omega
          obtain ⟨q2, e2⟩ : ∃ q : Nat, i % 2 = q := ⟨_, rfl⟩
          obtain ⟨q4, e4⟩ : ∃ q : Nat, i % 4 = q := ⟨_, rfl⟩
          obtain ⟨d4, g4⟩ : ∃ q : Nat, i / 4 = q := ⟨_, rfl⟩
          obtain ⟨r6, e6⟩ : ∃ q : Nat, i % 6 = q := ⟨_, rfl⟩
          obtain ⟨d2, g2⟩ : ∃ q : Nat, i / 2 = q := ⟨_, rfl⟩
          obtain ⟨r3, e3⟩ : ∃ q : Nat, i % 3 = q := ⟨_, rfl⟩
          have m2 : Int.tmod (i : Int) 2 = (q2 : Int) := by rw [Int.tmod_eq_emod_of_nonneg (by omega)]; omega
          have m4 : Int.tmod (i : Int) 4 = (q4 : Int) := by rw [Int.tmod_eq_emod_of_nonneg (by omega)]; omega
          have m6 : Int.tmod (i : Int) 6 = (r6 : Int) := by rw [Int.tmod_eq_emod_of_nonneg (by omega)]; omega
          have m3 : Int.tmod (i : Int) 3 = (r3 : Int) := by rw [Int.tmod_eq_emod_of_nonneg (by omega)]; omega
          have n4 : Int.tdiv (i : Int) 4 = (d4 : Int) := by rw [Int.tdiv_eq_ediv_of_nonneg (by omega)]; omega
          have n2 : Int.tdiv (i : Int) 2 = (d2 : Int) := by rw [Int.tdiv_eq_ediv_of_nonneg (by omega)]; omega
          have hr6 : r6 < 6 := by omega
          have hd2 : d2 < 6 := by omega
          have hq4 : q4 ≤ 3 := by omega
          have hd4 : d4 ≤ 2 := by omega
          have hr3 : r3 ≤ 2 := by omega
          obtain ⟨b2, hb2⟩ : ∃ b : Bool, ((q2 : Int) == 0) = b := ⟨_, rfl⟩
          obtain ⟨E6, hE6⟩ : ∃ x, endsL[r6]'hr6 = x := ⟨_, rfl⟩
          obtain ⟨ED, hED⟩ : ∃ x, endsL[d2]'hd2 = x := ⟨_, rfl⟩
          have hr6i : (r6 : Int) < 6 := by omega
          have hd2i : (d2 : Int) < 6 := by omega
          have wd2 : IntKind.i64.wrap (d2 : Int) = (d2 : Int) := IntWalk.i64_in _ (by omega)
          have wd4 : IntKind.i64.wrap (d4 : Int) = (d4 : Int) := IntWalk.i64_in _ (by omega)
          have wu8 : IntKind.u8.wrap (i : Int) = (i : Int) := IntWalk.u8_in _ (by omega)
          have wu64 : IntKind.u64.wrap (i : Int) = (i : Int) := IntWalk.u64_in _ (by omega)
          have w1 : IntKind.i64.wrap ((i : Int) - 1) = (i : Int) - 1 := IntWalk.i64_in _ (by omega)
          have w4 : IntKind.i64.wrap ((i : Int) - 4) = (i : Int) - 4 := IntWalk.i64_in _ (by omega)
          have hmk4 := made_row (q := q4) hq4
          have hmkd := made_row (q := d4) (by omega)
          have hi255 : (i : Int) ≤ 255 := by omega
          have hi63 : (i : Int) ≤ 9223372036854775807 := by omega
          have hc6 : wl.cell? ⟨w.heap.size + 1 + 1, r6, none⟩ = some (.int .i64 E6) := by rw [← hE6]; exact (HBL.out.cell (p := ⟨w.heap.size + 1 + 1, r6, none⟩) HZ.out).trans (HEN.out r6 hr6)
          have hcd : wl.cell? ⟨w.heap.size + 1 + 1, d2, none⟩ = some (.int .i64 ED) := by rw [← hED]; exact (HBL.out.cell (p := ⟨w.heap.size + 1 + 1, d2, none⟩) HZ.out).trans (HEN.out d2 hd2)
          have HSS := hid (fun (W : World) (h : Below wl.heap.size wl W) => show (fun W : World => W.cell? ⟨w.heap.size + 1 + 1, r6, none⟩ = some (.int .i64 E6) ∧ W.cell? ⟨w.heap.size + 1 + 1, d2, none⟩ = some (.int .i64 ED)) W from ⟨(h.cell (p := ⟨w.heap.size + 1 + 1, r6, none⟩) (cell_size hc6)).trans hc6, (h.cell (p := ⟨w.heap.size + 1 + 1, d2, none⟩) (cell_size hcd)).trans hcd⟩)
          have HN0 := hid (below_self wl)
          have HDV := hid (And.intro e2 (And.intro e4 (And.intro g4 (And.intro e6 (And.intro g2 e3)))))
          have HEE := hid (And.intro hE6 hED)
          clear e2 e4 g4 e6 g2 e3 hE6 hED hc6 hcd
          go_cut [6] (fun s6 wx => Sev wl kd i q4 d4 r3 E6 ED b2 s6 wx)
          case first =>
            refine (wpIn_wide (n := 9)).1 ?_
            refine wpIn_onlyN ?_
            refine wpIn_region_HJ (fun W : World => W.cell? ⟨w.heap.size + 1 + 1, r6, none⟩ = some (.int .i64 E6) ∧ W.cell? ⟨w.heap.size + 1 + 1, d2, none⟩ = some (.int .i64 ED)) 54 (by kernel_rfl) ?_
            simp only [List.size_toArray, List.length_cons, List.length_nil, Nat.reduceAdd]
            generalize wl.drew = wd at *
            refine wpHJ_pure (v := ?vr0_97) 0 fT rfl (by kernel_rfl) nE (Or.inl ⟨by rfl, ?yr0_97⟩) (.inr (HSS.out _ HN0.out)) ?rr0_97
            case yr0_97 => (intro w' _; go_simp; try rfl)
            simp only [Act.put, List.getElem_toArray, List.getElem_cons_succ, List.getElem_cons_zero, List.setIfInBounds_toArray, List.set_cons_zero, List.set_cons_succ]
            refine wpHJ_pure (v := ?vr1_98) 1 fT rfl (by kernel_rfl) nE (Or.inl ⟨by rfl, ?yr1_98⟩) (.inr (HSS.out _ HN0.out)) ?rr1_98
            case yr1_98 => (intro w' _; go_simp; try rfl)
            simp only [Act.put, List.getElem_toArray, List.getElem_cons_succ, List.getElem_cons_zero, List.setIfInBounds_toArray, List.set_cons_zero, List.set_cons_succ]
            refine wpHJ_pure (v := ?vr2_99) 2 fT rfl (by kernel_rfl) nE (Or.inl ⟨by rfl, ?yr2_99⟩) (.inr (HSS.out _ HN0.out)) ?rr2_99
            case yr2_99 => (intro w' _; go_simp; try rfl)
            simp only [Act.put, List.getElem_toArray, List.getElem_cons_succ, List.getElem_cons_zero, List.setIfInBounds_toArray, List.set_cons_zero, List.set_cons_succ]
            refine wpHJ_pure (v := ?vr3_100) 3 fT rfl (by kernel_rfl) nE (Or.inl ⟨by rfl, ?yr3_100⟩) (.inr (HSS.out _ HN0.out)) ?rr3_100
            case yr3_100 => (intro w' _; go_simp; try rfl)
            simp only [Act.put, List.getElem_toArray, List.getElem_cons_succ, List.getElem_cons_zero, List.setIfInBounds_toArray, List.set_cons_zero, List.set_cons_succ]
            refine wpHJ_pure (v := ?vr4_101) 4 fT rfl (by kernel_rfl) nE (Or.inl ⟨by rfl, ?yr4_101⟩) (.inr (HSS.out _ HN0.out)) ?rr4_101
            case yr4_101 => (intro w' _; go_simp; try rfl)
            simp only [Act.put, List.getElem_toArray, List.getElem_cons_succ, List.getElem_cons_zero, List.setIfInBounds_toArray, List.set_cons_zero, List.set_cons_succ]
            refine wpHJ_pure (v := ?vr5_102) 5 fT rfl (by kernel_rfl) nE (Or.inl ⟨by rfl, ?yr5_102⟩) (.inr (HSS.out _ HN0.out)) ?rr5_102
            case yr5_102 => (intro w' _; go_simp; try rfl)
            simp only [Act.put, List.getElem_toArray, List.getElem_cons_succ, List.getElem_cons_zero, List.setIfInBounds_toArray, List.set_cons_zero, List.set_cons_succ]
            refine wpHJ_pure (v := ?vr6_103) 6 fT rfl (by kernel_rfl) nE (Or.inl ⟨by rfl, ?yr6_103⟩) (.inr (HSS.out _ HN0.out)) ?rr6_103
            case yr6_103 => (intro w' _; go_simp; try rfl)
            simp only [Act.put, List.getElem_toArray, List.getElem_cons_succ, List.getElem_cons_zero, List.setIfInBounds_toArray, List.set_cons_zero, List.set_cons_succ]
            refine wpHJ_pure (v := ?vr7_104) 7 fT rfl (by kernel_rfl) nE (Or.inl ⟨by rfl, ?yr7_104⟩) (.inr (HSS.out _ HN0.out)) ?rr7_104
            case yr7_104 => (intro w' _; go_simp; try rfl)
            simp only [Act.put, List.getElem_toArray, List.getElem_cons_succ, List.getElem_cons_zero, List.setIfInBounds_toArray, List.set_cons_zero, List.set_cons_succ]
            refine wpHJ_pure (v := ?vr8_105) 8 fT rfl (by kernel_rfl) nE (Or.inl ⟨by rfl, ?yr8_105⟩) (.inr (HSS.out _ HN0.out)) ?rr8_105
            case yr8_105 => (intro w' _; go_simp; try rfl)
            simp only [Act.put, List.getElem_toArray, List.getElem_cons_succ, List.getElem_cons_zero, List.setIfInBounds_toArray, List.set_cons_zero, List.set_cons_succ]
            refine wpHJ_pure (v := ?vr9_106) 9 fT rfl (by kernel_rfl) nE (Or.inl ⟨by rfl, ?yr9_106⟩) (.inr (HSS.out _ HN0.out)) ?rr9_106
            case yr9_106 => (intro w' _; go_simp; try rfl)
            simp only [Act.put, List.getElem_toArray, List.getElem_cons_succ, List.getElem_cons_zero, List.setIfInBounds_toArray, List.set_cons_zero, List.set_cons_succ]
            refine wpHJ_pure (v := ?vr10_107) 10 fT rfl (by kernel_rfl) nE (Or.inl ⟨by rfl, ?yr10_107⟩) (.inr (HSS.out _ HN0.out)) ?rr10_107
            case yr10_107 => (intro w' _; go_simp; try rfl)
            simp only [Act.put, List.getElem_toArray, List.getElem_cons_succ, List.getElem_cons_zero, List.setIfInBounds_toArray, List.set_cons_zero, List.set_cons_succ]
            refine wpHJ_pure (v := ?vr11_108) 11 fT rfl (by kernel_rfl) nE (Or.inl ⟨by rfl, ?yr11_108⟩) (.inr (HSS.out _ HN0.out)) ?rr11_108
            case yr11_108 => (intro w' _; go_simp; try rfl)
            simp only [Act.put, List.getElem_toArray, List.getElem_cons_succ, List.getElem_cons_zero, List.setIfInBounds_toArray, List.set_cons_zero, List.set_cons_succ]
            refine wpHJ_pure (v := ?vr12_109) 12 fT rfl (by kernel_rfl) nE (Or.inl ⟨by rfl, ?yr12_109⟩) (.inr (HSS.out _ HN0.out)) ?rr12_109
            case yr12_109 => (intro w' _; go_simp; try rfl)
            simp only [Act.put, List.getElem_toArray, List.getElem_cons_succ, List.getElem_cons_zero, List.setIfInBounds_toArray, List.set_cons_zero, List.set_cons_succ]
            refine wpHJ_pure (v := ?vr13_110) 13 fT rfl (by kernel_rfl) nE (Or.inl ⟨by rfl, ?yr13_110⟩) (.inr (HSS.out _ HN0.out)) ?rr13_110
            case yr13_110 => (intro w' _; go_simp; try rfl)
            simp only [Act.put, List.getElem_toArray, List.getElem_cons_succ, List.getElem_cons_zero, List.setIfInBounds_toArray, List.set_cons_zero, List.set_cons_succ]
            refine wpHJ_pure (v := ?vr14_111) 14 fT rfl (by kernel_rfl) nE (Or.inl ⟨by rfl, ?yr14_111⟩) (.inr (HSS.out _ HN0.out)) ?rr14_111
            case yr14_111 => (intro w' _; go_simp; try rfl)
            simp only [Act.put, List.getElem_toArray, List.getElem_cons_succ, List.getElem_cons_zero, List.setIfInBounds_toArray, List.set_cons_zero, List.set_cons_succ]
            refine wpHJ_pure (v := ?vr15_112) 15 fT rfl (by kernel_rfl) nE (Or.inl ⟨by rfl, ?yr15_112⟩) (.inr (HSS.out _ HN0.out)) ?rr15_112
            case yr15_112 => (intro w' _; go_simp; try rfl)
            simp only [Act.put, List.getElem_toArray, List.getElem_cons_succ, List.getElem_cons_zero, List.setIfInBounds_toArray, List.set_cons_zero, List.set_cons_succ]
            refine wpHJ_pure (v := ?vr16_113) 16 fT rfl (by kernel_rfl) nE (Or.inl ⟨by rfl, ?yr16_113⟩) (.inr (HSS.out _ HN0.out)) ?rr16_113
            case yr16_113 => (intro w' _; go_simp; try rfl)
            simp only [Act.put, List.getElem_toArray, List.getElem_cons_succ, List.getElem_cons_zero, List.setIfInBounds_toArray, List.set_cons_zero, List.set_cons_succ]
            refine wpHJ_pure (v := ?vr17_114) 17 fT rfl (by kernel_rfl) nE (Or.inl ⟨by rfl, ?yr17_114⟩) (.inr (HSS.out _ HN0.out)) ?rr17_114
            case yr17_114 => (intro w' _; go_simp; try rfl)
            simp only [Act.put, List.getElem_toArray, List.getElem_cons_succ, List.getElem_cons_zero, List.setIfInBounds_toArray, List.set_cons_zero, List.set_cons_succ]
            refine wpHJ_pure (v := ?vr18_115) 18 fT rfl (by kernel_rfl) nE (Or.inl ⟨by rfl, ?yr18_115⟩) (.inr (HSS.out _ HN0.out)) ?rr18_115
            case yr18_115 => (intro w' _; go_simp; try rfl)
            simp only [Act.put, List.getElem_toArray, List.getElem_cons_succ, List.getElem_cons_zero, List.setIfInBounds_toArray, List.set_cons_zero, List.set_cons_succ]
            refine wpHJ_pure (v := ?vr19_116) 19 fT rfl (by kernel_rfl) nE (Or.inl ⟨by rfl, ?yr19_116⟩) (.inr (HSS.out _ HN0.out)) ?rr19_116
            case yr19_116 => (intro w' _; go_simp; try rfl)
            simp only [Act.put, List.getElem_toArray, List.getElem_cons_succ, List.getElem_cons_zero, List.setIfInBounds_toArray, List.set_cons_zero, List.set_cons_succ]
            refine wpHJ_pure (v := ?vr20_117) 20 fT rfl (by kernel_rfl) nE (Or.inl ⟨by rfl, ?yr20_117⟩) (.inr (HSS.out _ HN0.out)) ?rr20_117
            case yr20_117 => (intro w' _; go_simp; try rfl)
            simp only [Act.put, List.getElem_toArray, List.getElem_cons_succ, List.getElem_cons_zero, List.setIfInBounds_toArray, List.set_cons_zero, List.set_cons_succ]
            refine wpHJ_pure (v := ?vr21_118) 21 fT rfl (by kernel_rfl) nE (Or.inl ⟨by rfl, ?yr21_118⟩) (.inr (HSS.out _ HN0.out)) ?rr21_118
            case yr21_118 => (intro w' _; go_simp; try rfl)
            simp only [Act.put, List.getElem_toArray, List.getElem_cons_succ, List.getElem_cons_zero, List.setIfInBounds_toArray, List.set_cons_zero, List.set_cons_succ]
            refine wpHJ_pure (v := ?vr23_120) 23 fT rfl (by kernel_rfl) nE (Or.inl ⟨by rfl, ?yr23_120⟩) (.inr (HSS.out _ HN0.out)) ?rr23_120
            case yr23_120 => (intro w' _; go_simp; try rfl)
            simp only [Act.put, List.getElem_toArray, List.getElem_cons_succ, List.getElem_cons_zero, List.setIfInBounds_toArray, List.set_cons_zero, List.set_cons_succ]
            refine wpHJ_pure (v := ?vr24_122) 24 fT rfl (by kernel_rfl) nE (Or.inl ⟨by rfl, ?yr24_122⟩) (.inr (HSS.out _ HN0.out)) ?rr24_122
            case yr24_122 => (intro w' _; go_simp; try rfl)
            simp only [Act.put, List.getElem_toArray, List.getElem_cons_succ, List.getElem_cons_zero, List.setIfInBounds_toArray, List.set_cons_zero, List.set_cons_succ]
            refine wpHJ_pure (v := ?vr28_125) 28 fT rfl (by kernel_rfl) nE (Or.inl ⟨by rfl, ?yr28_125⟩) (.inr (HSS.out _ HN0.out)) ?rr28_125
            case yr28_125 => (intro w' _; go_simp; try rfl)
            simp only [Act.put, List.getElem_toArray, List.getElem_cons_succ, List.getElem_cons_zero, List.setIfInBounds_toArray, List.set_cons_zero, List.set_cons_succ]
            refine wpHJ_pure (v := ?vr29_128) 29 fT rfl (by kernel_rfl) nE (Or.inl ⟨by rfl, ?yr29_128⟩) (.inr (HSS.out _ HN0.out)) ?rr29_128
            case yr29_128 => (intro w' _; go_simp; try rfl)
            simp only [Act.put, List.getElem_toArray, List.getElem_cons_succ, List.getElem_cons_zero, List.setIfInBounds_toArray, List.set_cons_zero, List.set_cons_succ]
            refine wpHJ_pure (v := ?vr30_131) 30 fT rfl (by kernel_rfl) nE (Or.inl ⟨by rfl, ?yr30_131⟩) (.inr (HSS.out _ HN0.out)) ?rr30_131
            case yr30_131 => (intro w' _; go_simp; try rfl)
            simp only [Act.put, List.getElem_toArray, List.getElem_cons_succ, List.getElem_cons_zero, List.setIfInBounds_toArray, List.set_cons_zero, List.set_cons_succ]
            refine wpHJ_pure (v := ?vr31_134) 31 fT rfl (by kernel_rfl) nE (Or.inl ⟨by rfl, ?yr31_134⟩) (.inr (HSS.out _ HN0.out)) ?rr31_134
            case yr31_134 => (intro w' _; go_simp; try rfl)
            simp only [Act.put, List.getElem_toArray, List.getElem_cons_succ, List.getElem_cons_zero, List.setIfInBounds_toArray, List.set_cons_zero, List.set_cons_succ]
            refine wpHJ_pure (v := ?vr32_137) 32 fT rfl (by kernel_rfl) nE (Or.inl ⟨by rfl, ?yr32_137⟩) (.inr (HSS.out _ HN0.out)) ?rr32_137
            case yr32_137 => (intro w' _; go_simp; try rfl)
            simp only [Act.put, List.getElem_toArray, List.getElem_cons_succ, List.getElem_cons_zero, List.setIfInBounds_toArray, List.set_cons_zero, List.set_cons_succ]
            refine wpHJ_pure (v := ?vr33_140) 33 fT rfl (by kernel_rfl) nE (Or.inl ⟨by rfl, ?yr33_140⟩) (.inr (HSS.out _ HN0.out)) ?rr33_140
            case yr33_140 => (intro w' _; go_simp; try rfl)
            simp only [Act.put, List.getElem_toArray, List.getElem_cons_succ, List.getElem_cons_zero, List.setIfInBounds_toArray, List.set_cons_zero, List.set_cons_succ]
            refine wpHJ_pure (v := ?vr34_143) 34 fT rfl (by kernel_rfl) nE (Or.inl ⟨by rfl, ?yr34_143⟩) (.inr (HSS.out _ HN0.out)) ?rr34_143
            case yr34_143 => (intro w' _; go_simp; try rfl)
            simp only [Act.put, List.getElem_toArray, List.getElem_cons_succ, List.getElem_cons_zero, List.setIfInBounds_toArray, List.set_cons_zero, List.set_cons_succ]
            refine wpHJ_take (v := ?vr35_146) 35 fT rfl (by kernel_rfl) nE (Or.inl ⟨by rfl, ?yr35_146⟩) (HSS.out _ HN0.out) ?rr35_146
            case yr35_146 => (intro w' hS'; obtain ⟨s1, s2⟩ := hS'; go_simp; try rfl)
            simp only [Act.put, List.getElem_toArray, List.getElem_cons_succ, List.getElem_cons_zero, List.setIfInBounds_toArray, List.set_cons_zero, List.set_cons_succ]
            refine wpHJ_pure (v := ?vr36_149) 36 fT rfl (by kernel_rfl) nE (Or.inl ⟨by rfl, ?yr36_149⟩) (.inr (HSS.out _ HN0.out)) ?rr36_149
            case yr36_149 => (intro w' _; go_simp; try rfl)
            simp only [Act.put, List.getElem_toArray, List.getElem_cons_succ, List.getElem_cons_zero, List.setIfInBounds_toArray, List.set_cons_zero, List.set_cons_succ]
            refine wpHJ_pure (v := ?vr37_152) 37 fT rfl (by kernel_rfl) nE (Or.inl ⟨by rfl, ?yr37_152⟩) (.inr (HSS.out _ HN0.out)) ?rr37_152
            case yr37_152 => (intro w' _; go_simp; try rfl)
            simp only [Act.put, List.getElem_toArray, List.getElem_cons_succ, List.getElem_cons_zero, List.setIfInBounds_toArray, List.set_cons_zero, List.set_cons_succ]
            refine wpHJ_pure (v := ?vr38_155) 38 fT rfl (by kernel_rfl) nE (Or.inl ⟨by rfl, ?yr38_155⟩) (.inr (HSS.out _ HN0.out)) ?rr38_155
            case yr38_155 => (intro w' _; go_simp; try rfl)
            simp only [Act.put, List.getElem_toArray, List.getElem_cons_succ, List.getElem_cons_zero, List.setIfInBounds_toArray, List.set_cons_zero, List.set_cons_succ]
            refine wpHJ_pure (v := ?vr39_158) 39 fT rfl (by kernel_rfl) nE (Or.inl ⟨by rfl, ?yr39_158⟩) (.inr (HSS.out _ HN0.out)) ?rr39_158
            case yr39_158 => (intro w' _; go_simp; try rfl)
            simp only [Act.put, List.getElem_toArray, List.getElem_cons_succ, List.getElem_cons_zero, List.setIfInBounds_toArray, List.set_cons_zero, List.set_cons_succ]
            refine wpHJ_take (v := ?vr40_161) 40 fT rfl (by kernel_rfl) nE (Or.inl ⟨by rfl, ?yr40_161⟩) (HSS.out _ HN0.out) ?rr40_161
            case yr40_161 => (intro w' hS'; obtain ⟨s1, s2⟩ := hS'; go_simp; try rfl)
            simp only [Act.put, List.getElem_toArray, List.getElem_cons_succ, List.getElem_cons_zero, List.setIfInBounds_toArray, List.set_cons_zero, List.set_cons_succ]
            refine wpHJ_pure (v := ?vr41_164) 41 fT rfl (by kernel_rfl) nE (Or.inl ⟨by rfl, ?yr41_164⟩) (.inr (HSS.out _ HN0.out)) ?rr41_164
            case yr41_164 => (intro w' _; go_simp; try rfl)
            simp only [Act.put, List.getElem_toArray, List.getElem_cons_succ, List.getElem_cons_zero, List.setIfInBounds_toArray, List.set_cons_zero, List.set_cons_succ]
            refine wpHJ_pure (v := ?vr42_167) 42 fT rfl (by kernel_rfl) nE (Or.inl ⟨by rfl, ?yr42_167⟩) (.inr (HSS.out _ HN0.out)) ?rr42_167
            case yr42_167 => (intro w' _; go_simp; try rfl)
            simp only [Act.put, List.getElem_toArray, List.getElem_cons_succ, List.getElem_cons_zero, List.setIfInBounds_toArray, List.set_cons_zero, List.set_cons_succ]
            refine wpHJ_pure (v := ?vr43_170) 43 fT rfl (by kernel_rfl) nE (Or.inl ⟨by rfl, ?yr43_170⟩) (.inr (HSS.out _ HN0.out)) ?rr43_170
            case yr43_170 => (intro w' _; go_simp; try rfl)
            simp only [Act.put, List.getElem_toArray, List.getElem_cons_succ, List.getElem_cons_zero, List.setIfInBounds_toArray, List.set_cons_zero, List.set_cons_succ]
            refine wpHJ_pure (v := ?vr45_174) 45 fT rfl (by kernel_rfl) nE (Or.inl ⟨by rfl, ?yr45_174⟩) (.inr (HSS.out _ HN0.out)) ?rr45_174
            case yr45_174 => (intro w' _; go_simp; try rfl)
            simp only [Act.put, List.getElem_toArray, List.getElem_cons_succ, List.getElem_cons_zero, List.setIfInBounds_toArray, List.set_cons_zero, List.set_cons_succ]
            refine wpHJ_pure (v := ?vr46_178) 46 fT rfl (by kernel_rfl) nE (Or.inl ⟨by rfl, ?yr46_178⟩) (.inr (HSS.out _ HN0.out)) ?rr46_178
            case yr46_178 => (intro w' _; go_simp; try rfl)
            simp only [Act.put, List.getElem_toArray, List.getElem_cons_succ, List.getElem_cons_zero, List.setIfInBounds_toArray, List.set_cons_zero, List.set_cons_succ]
            refine wpHJ_pure (v := ?vr49_183) 49 fT rfl (by kernel_rfl) nE (Or.inl ⟨by rfl, ?yr49_183⟩) (.inr (HSS.out _ HN0.out)) ?rr49_183
            case yr49_183 => (intro w' _; go_simp; try rfl)
            simp only [Act.put, List.getElem_toArray, List.getElem_cons_succ, List.getElem_cons_zero, List.setIfInBounds_toArray, List.set_cons_zero, List.set_cons_succ]
            refine wpHJ_pure (v := ?vr50_188) 50 fT rfl (by kernel_rfl) nE (Or.inl ⟨by rfl, ?yr50_188⟩) (.inr (HSS.out _ HN0.out)) ?rr50_188
            case yr50_188 => (intro w' _; go_simp; try rfl)
            simp only [Act.put, List.getElem_toArray, List.getElem_cons_succ, List.getElem_cons_zero, List.setIfInBounds_toArray, List.set_cons_zero, List.set_cons_succ]
            refine gen_HJ fun G a0 ha0 hG hG2 => ?_
            have K22_25_44_47_48 : ∀ (n22 n25 n44 n47 n48 : Nat) (wv : World), Below wl.heap.size wl wv → NLL (fun i => i < wv.heap.size) wv (.slice (some ⟨n22, 0, none⟩) q4 q4) (List.replicate q4 []) → NLL (fun i => i < wv.heap.size) wv (.slice (some ⟨n25, 0, none⟩) d4 d4) (List.replicate d4 []) → NLL (fun i => i < wv.heap.size) wv (.slice (some ⟨n48, 0, none⟩) 2 2) [[], [18446744073709551615, i]] → G 2 #[true, true, true, true, true, true, true, true, true, true, true, true, true, true, true, true, true, true, true, true, true, true, true, true, true, true, true, true, true, true, true, true, true, true, true, true, true, true, true, true, true, true, true, true, true, true, true, true, true, true, true, true, true, false, false] (Act.put (Act.put (Act.put (Act.put (Act.put (Act.put (Act.put (Act.put (Act.put a0 (some 41) (.slice (some ⟨n22, 0, none⟩) q4 q4)) (some 44) (.slice (some ⟨n25, 0, none⟩) d4 d4)) (some 63) (.slice (some ⟨n44, 0, none⟩) 0 0)) (some 66) (.slice (some ⟨n47, 0, none⟩) 2 2)) (some 67) (.slice (some ⟨n48, 0, none⟩) 2 2)) (some 45) (.agg #[.int .i64 0, (.slice (some ⟨n22, 0, none⟩) q4 q4), (.slice (some ⟨n25, 0, none⟩) d4 d4), .bool false])) (some 46) (.agg #[.int .u8 (kd : Int), .int .u8 0, .int .i64 0, (.slice (some ⟨n22, 0, none⟩) q4 q4), (.slice (some ⟨n25, 0, none⟩) d4 d4), .bool false, .bool false, .int .i64 0, .int .i64 0, .int .i64 0])) (some 70) (.agg #[.int .i64 (r3 : Int), (.slice (some ⟨n48, 0, none⟩) 2 2), .slice none 0 0, .bool false])) (some 71) (.agg #[.int .u8 (kd : Int), .int .u8 0, .int .i64 (r3 : Int), (.slice (some ⟨n48, 0, none⟩) 2 2), .slice none 0 0, .bool false, .bool false, .int .i64 0, .int .i64 0, .int .i64 0])) wv := by
              intro n22 n25 n44 n47 n48 wv hBv hv22 hv25 hv48
              have HBv := hid hBv
              have HV22 := hid hv22
              have HV25 := hid hv25
              have HV48 := hid hv48
              clear hBv hv22 hv25 hv48
              rw [hG]
              simp only [ha0, Act.put, List.getElem_toArray, List.getElem_cons_succ, List.getElem_cons_zero, List.setIfInBounds_toArray, List.set_cons_zero, List.set_cons_succ]
              refine wpHJ_only 53 (by kernel_rfl) rfl ?_
              intro K hK
              go_simp
              obtain ⟨w193, hw193⟩ : ∃ W, W = wv.alloc (.cells #[.int .u8 (kd : Int), .int .u8 (i : Int), .int .i64 0, .slice none 0 0, .slice none 0 0, .bool false, .bool false, .int .i64 0, .int .i64 0, .int .i64 0, .int .u8 (kd : Int), .int .u8 0, .int .i64 0, .slice none 0 0, .slice none 0 0, .bool false, .bool b2, .int .i64 0, .int .i64 0, .int .i64 ((i : Int) - 1), .int .u8 (kd : Int), .int .u8 0, .int .i64 ((i : Int) - 4), .slice none 0 0, .slice none 0 0, .bool b2, .bool false, .int .i64 0, .int .i64 0, .int .i64 0, .int .u8 (kd : Int), .int .u8 0, .int .i64 0, .slice (some ⟨n22, 0, none⟩) q4 q4, .slice (some ⟨n25, 0, none⟩) d4 d4, .bool false, .bool false, .int .i64 0, .int .i64 0, .int .i64 0, .int .u8 (kd : Int), .int .u8 0, .int .i64 0, .slice none 0 0, .slice none 0 0, .bool false, .bool true, .int .i64 0, .int .i64 0, .int .i64 0, .int .u8 (kd : Int), .int .u8 0, .int .i64 0, .slice none 0 0, .slice none 0 0, .bool false, .bool false, .int .i64 E6, .int .i64 ED, .int .i64 4, .int .u8 (kd : Int), .int .u8 0, .int .i64 (r3 : Int), .slice (some ⟨n48, 0, none⟩) 2 2, .slice none 0 0, .bool false, .bool false, .int .i64 0, .int .i64 0, .int .i64 0] 35) := ⟨_, rfl⟩
              rw [← hw193]
              have HQ := hid hw193
              have HBq := hid (show Below wl.heap.size wl w193 from by rw [hw193]; exact HBv.out.alloc HBv.out.size _)
              clear hw193
              refine hK _ _ (.inr (.inr (HSS.out _ HBq.out))) ?_
              clear hK K
              refine wpHJ_only 54 (by kernel_rfl) rfl ?_
              intro K hK
              go_simp
              refine hK _ _ (.inl rfl) ?_
              clear hK K
              refine wpHJ_done (by kernel_rfl) ?_ _
              simp only [onlyN, Exit.then]
              first | go_meet | (go_wp2_with fail; go_meet)
              case rel => exact sev_of HQ.out HV22.out HV25.out HV48.out HBv.out HBq.out
            simp only [ha0, Act.put, List.getElem_toArray, List.getElem_cons_succ, List.getElem_cons_zero, List.setIfInBounds_toArray, List.set_cons_zero, List.set_cons_succ] at K22_25_44_47_48
            have K22_25_44_47 : ∀ (n22 n25 n44 n47 : Nat) (wv : World), Below wl.heap.size wl wv → NLL (fun i => i < wv.heap.size) wv (.slice (some ⟨n22, 0, none⟩) q4 q4) (List.replicate q4 []) → NLL (fun i => i < wv.heap.size) wv (.slice (some ⟨n25, 0, none⟩) d4 d4) (List.replicate d4 []) → Nums (fun i => i < wv.heap.size) wv (.slice (some ⟨n44, 0, none⟩) 0 0) [] → Nums (fun i => i < wv.heap.size) wv (.slice (some ⟨n47, 0, none⟩) 2 2) [18446744073709551615, i] → G 5 #[true, true, true, true, true, true, true, true, true, true, true, true, true, true, true, true, true, true, true, true, true, true, true, true, true, true, true, true, true, true, true, true, true, true, true, true, true, true, true, true, true, true, true, true, true, true, true, true, false, true, true, false, false, false, false] (Act.put (Act.put (Act.put (Act.put (Act.put (Act.put a0 (some 41) (.slice (some ⟨n22, 0, none⟩) q4 q4)) (some 44) (.slice (some ⟨n25, 0, none⟩) d4 d4)) (some 63) (.slice (some ⟨n44, 0, none⟩) 0 0)) (some 66) (.slice (some ⟨n47, 0, none⟩) 2 2)) (some 45) (.agg #[.int .i64 0, (.slice (some ⟨n22, 0, none⟩) q4 q4), (.slice (some ⟨n25, 0, none⟩) d4 d4), .bool false])) (some 46) (.agg #[.int .u8 (kd : Int), .int .u8 0, .int .i64 0, (.slice (some ⟨n22, 0, none⟩) q4 q4), (.slice (some ⟨n25, 0, none⟩) d4 d4), .bool false, .bool false, .int .i64 0, .int .i64 0, .int .i64 0])) wv := by
              intro n22 n25 n44 n47 wv hBv hv22 hv25 hv44 hv47
              have HBv := hid hBv
              have HV22 := hid hv22
              have HV25 := hid hv25
              have HV44 := hid hv44
              have HV47 := hid hv47
              clear hBv hv22 hv25 hv44 hv47
              rw [hG]
              simp only [ha0, Act.put, List.getElem_toArray, List.getElem_cons_succ, List.getElem_cons_zero, List.setIfInBounds_toArray, List.set_cons_zero, List.set_cons_succ]
              refine wpHJ_only 48 (by kernel_rfl) rfl ?_
              intro K hK
              go_simp
              have HO203 := hid (nll_two wv HV44.out HV47.out 36)
              have HV203_22 := hid (nll_al HV22.out (.cells #[.slice (some ⟨n44, 0, none⟩) 0 0, .slice (some ⟨n47, 0, none⟩) 2 2] 36))
              have HV203_25 := hid (nll_al HV25.out (.cells #[.slice (some ⟨n44, 0, none⟩) 0 0, .slice (some ⟨n47, 0, none⟩) 2 2] 36))
              have HN203 := hid (HBv.out.alloc HBv.out.size (.cells #[.slice (some ⟨n44, 0, none⟩) 0 0, .slice (some ⟨n47, 0, none⟩) 2 2] 36))
              generalize wv.alloc (.cells #[.slice (some ⟨n44, 0, none⟩) 0 0, .slice (some ⟨n47, 0, none⟩) 2 2] 36) = w203 at *
              generalize wv.heap.size = n203 at *
              refine hK _ _ (.inr (.inr (HSS.out _ HN203.out))) ?_
              clear hK K
              refine wpHJ_pure (v := ?ve51_207) 51 fT rfl (by kernel_rfl) nE (Or.inl ⟨by rfl, ?ye51_207⟩) (.inr (HSS.out _ HN203.out)) ?re51_207
              case ye51_207 => (intro w' _; go_simp; try rfl)
              simp only [Act.put, List.getElem_toArray, List.getElem_cons_succ, List.getElem_cons_zero, List.setIfInBounds_toArray, List.set_cons_zero, List.set_cons_succ]
              refine wpHJ_pure (v := ?ve52_208) 52 fT rfl (by kernel_rfl) nE (Or.inl ⟨by rfl, ?ye52_208⟩) (.inr (HSS.out _ HN203.out)) ?re52_208
              case ye52_208 => (intro w' _; go_simp; try rfl)
              simp only [Act.put, List.getElem_toArray, List.getElem_cons_succ, List.getElem_cons_zero, List.setIfInBounds_toArray, List.set_cons_zero, List.set_cons_succ]
              exact hG2 _ _ _ _ _ (by kernel_rfl) (K22_25_44_47_48 n22 n25 n44 n47 n203 w203 HN203.out HV203_22.out HV203_25.out HO203.out)
            simp only [ha0, Act.put, List.getElem_toArray, List.getElem_cons_succ, List.getElem_cons_zero, List.setIfInBounds_toArray, List.set_cons_zero, List.set_cons_succ] at K22_25_44_47
            have K22_44_47_48 : ∀ (n22 n44 n47 n48 : Nat) (wv : World), Below wl.heap.size wl wv → NLL (fun i => i < wv.heap.size) wv (.slice (some ⟨n22, 0, none⟩) q4 q4) (List.replicate q4 []) → NLL (fun i => i < wv.heap.size) wv (.slice (some ⟨n48, 0, none⟩) 2 2) [[], [18446744073709551615, i]] → G 5 #[true, true, true, true, true, true, true, true, true, true, true, true, true, true, true, true, true, true, true, true, true, true, true, true, true, false, false, false, true, true, true, true, true, true, true, true, true, true, true, true, true, true, true, true, true, true, true, true, true, true, true, true, true, false, false] (Act.put (Act.put (Act.put (Act.put (Act.put (Act.put a0 (some 41) (.slice (some ⟨n22, 0, none⟩) q4 q4)) (some 63) (.slice (some ⟨n44, 0, none⟩) 0 0)) (some 66) (.slice (some ⟨n47, 0, none⟩) 2 2)) (some 67) (.slice (some ⟨n48, 0, none⟩) 2 2)) (some 70) (.agg #[.int .i64 (r3 : Int), (.slice (some ⟨n48, 0, none⟩) 2 2), .slice none 0 0, .bool false])) (some 71) (.agg #[.int .u8 (kd : Int), .int .u8 0, .int .i64 (r3 : Int), (.slice (some ⟨n48, 0, none⟩) 2 2), .slice none 0 0, .bool false, .bool false, .int .i64 0, .int .i64 0, .int .i64 0])) wv := by
              intro n22 n44 n47 n48 wv hBv hv22 hv48
              have HBv := hid hBv
              have HV22 := hid hv22
              have HV48 := hid hv48
              clear hBv hv22 hv48
              rw [hG]
              simp only [ha0, Act.put, List.getElem_toArray, List.getElem_cons_succ, List.getElem_cons_zero, List.setIfInBounds_toArray, List.set_cons_zero, List.set_cons_succ]
              refine wpHJ_only 25 (by kernel_rfl) rfl ?_
              intro K hK
              go_simp
              have HO218 := hid (nll_made wv d4 (by omega) 36)
              have HV218_22 := hid (nll_al HV22.out (.cells (madeCells #[.slice none 0 0] d4) 36))
              have HV218_48 := hid (nll_al HV48.out (.cells (madeCells #[.slice none 0 0] d4) 36))
              have HN218 := hid (HBv.out.alloc HBv.out.size (.cells (madeCells #[.slice none 0 0] d4) 36))
              generalize wv.alloc (.cells (madeCells #[.slice none 0 0] d4) 36) = w218 at *
              generalize wv.heap.size = n218 at *
              refine hK _ _ (.inr (.inr (HSS.out _ HN218.out))) ?_
              clear hK K
              refine wpHJ_pure (v := ?ve26_224) 26 fT rfl (by kernel_rfl) nE (Or.inl ⟨by rfl, ?ye26_224⟩) (.inr (HSS.out _ HN218.out)) ?re26_224
              case ye26_224 => (intro w' _; go_simp; try rfl)
              simp only [Act.put, List.getElem_toArray, List.getElem_cons_succ, List.getElem_cons_zero, List.setIfInBounds_toArray, List.set_cons_zero, List.set_cons_succ]
              refine wpHJ_pure (v := ?ve27_225) 27 fT rfl (by kernel_rfl) nE (Or.inl ⟨by rfl, ?ye27_225⟩) (.inr (HSS.out _ HN218.out)) ?re27_225
              case ye27_225 => (intro w' _; go_simp; try rfl)
              simp only [Act.put, List.getElem_toArray, List.getElem_cons_succ, List.getElem_cons_zero, List.setIfInBounds_toArray, List.set_cons_zero, List.set_cons_succ]
              exact hG2 _ _ _ _ _ (by kernel_rfl) (K22_25_44_47_48 n22 n218 n44 n47 n48 w218 HN218.out HV218_22.out HO218.out HV218_48.out)
            simp only [ha0, Act.put, List.getElem_toArray, List.getElem_cons_succ, List.getElem_cons_zero, List.setIfInBounds_toArray, List.set_cons_zero, List.set_cons_succ] at K22_44_47_48
            have K25_44_47_48 : ∀ (n25 n44 n47 n48 : Nat) (wv : World), Below wl.heap.size wl wv → NLL (fun i => i < wv.heap.size) wv (.slice (some ⟨n25, 0, none⟩) d4 d4) (List.replicate d4 []) → NLL (fun i => i < wv.heap.size) wv (.slice (some ⟨n48, 0, none⟩) 2 2) [[], [18446744073709551615, i]] → G 5 #[true, true, true, true, true, true, true, true, true, true, true, true, true, true, true, true, true, true, true, true, true, true, false, true, true, true, false, false, true, true, true, true, true, true, true, true, true, true, true, true, true, true, true, true, true, true, true, true, true, true, true, true, true, false, false] (Act.put (Act.put (Act.put (Act.put (Act.put (Act.put a0 (some 44) (.slice (some ⟨n25, 0, none⟩) d4 d4)) (some 63) (.slice (some ⟨n44, 0, none⟩) 0 0)) (some 66) (.slice (some ⟨n47, 0, none⟩) 2 2)) (some 67) (.slice (some ⟨n48, 0, none⟩) 2 2)) (some 70) (.agg #[.int .i64 (r3 : Int), (.slice (some ⟨n48, 0, none⟩) 2 2), .slice none 0 0, .bool false])) (some 71) (.agg #[.int .u8 (kd : Int), .int .u8 0, .int .i64 (r3 : Int), (.slice (some ⟨n48, 0, none⟩) 2 2), .slice none 0 0, .bool false, .bool false, .int .i64 0, .int .i64 0, .int .i64 0])) wv := by
              intro n25 n44 n47 n48 wv hBv hv25 hv48
              have HBv := hid hBv
              have HV25 := hid hv25
              have HV48 := hid hv48
              clear hBv hv25 hv48
              rw [hG]
              simp only [ha0, Act.put, List.getElem_toArray, List.getElem_cons_succ, List.getElem_cons_zero, List.setIfInBounds_toArray, List.set_cons_zero, List.set_cons_succ]
              refine wpHJ_only 22 (by kernel_rfl) rfl ?_
              intro K hK
              go_simp
              have HO237 := hid (nll_made wv q4 hq4 36)
              have HV237_25 := hid (nll_al HV25.out (.cells (madeCells #[.slice none 0 0] q4) 36))
              have HV237_48 := hid (nll_al HV48.out (.cells (madeCells #[.slice none 0 0] q4) 36))
              have HN237 := hid (HBv.out.alloc HBv.out.size (.cells (madeCells #[.slice none 0 0] q4) 36))
              generalize wv.alloc (.cells (madeCells #[.slice none 0 0] q4) 36) = w237 at *
              generalize wv.heap.size = n237 at *
              refine hK _ _ (.inr (.inr (HSS.out _ HN237.out))) ?_
              clear hK K
              refine wpHJ_pure (v := ?ve26_243) 26 fT rfl (by kernel_rfl) nE (Or.inl ⟨by rfl, ?ye26_243⟩) (.inr (HSS.out _ HN237.out)) ?re26_243
              case ye26_243 => (intro w' _; go_simp; try rfl)
              simp only [Act.put, List.getElem_toArray, List.getElem_cons_succ, List.getElem_cons_zero, List.setIfInBounds_toArray, List.set_cons_zero, List.set_cons_succ]
              refine wpHJ_pure (v := ?ve27_244) 27 fT rfl (by kernel_rfl) nE (Or.inl ⟨by rfl, ?ye27_244⟩) (.inr (HSS.out _ HN237.out)) ?re27_244
              case ye27_244 => (intro w' _; go_simp; try rfl)
              simp only [Act.put, List.getElem_toArray, List.getElem_cons_succ, List.getElem_cons_zero, List.setIfInBounds_toArray, List.set_cons_zero, List.set_cons_succ]
              exact hG2 _ _ _ _ _ (by kernel_rfl) (K22_25_44_47_48 n237 n25 n44 n47 n48 w237 HN237.out HO237.out HV237_25.out HV237_48.out)
            simp only [ha0, Act.put, List.getElem_toArray, List.getElem_cons_succ, List.getElem_cons_zero, List.setIfInBounds_toArray, List.set_cons_zero, List.set_cons_succ] at K25_44_47_48
            have K22_25_44 : ∀ (n22 n25 n44 : Nat) (wv : World), Below wl.heap.size wl wv → NLL (fun i => i < wv.heap.size) wv (.slice (some ⟨n22, 0, none⟩) q4 q4) (List.replicate q4 []) → NLL (fun i => i < wv.heap.size) wv (.slice (some ⟨n25, 0, none⟩) d4 d4) (List.replicate d4 []) → Nums (fun i => i < wv.heap.size) wv (.slice (some ⟨n44, 0, none⟩) 0 0) [] → G 6 #[true, true, true, true, true, true, true, true, true, true, true, true, true, true, true, true, true, true, true, true, true, true, true, true, true, true, true, true, true, true, true, true, true, true, true, true, true, true, true, true, true, true, true, true, true, true, true, false, false, true, true, false, false, false, false] (Act.put (Act.put (Act.put (Act.put (Act.put a0 (some 41) (.slice (some ⟨n22, 0, none⟩) q4 q4)) (some 44) (.slice (some ⟨n25, 0, none⟩) d4 d4)) (some 63) (.slice (some ⟨n44, 0, none⟩) 0 0)) (some 45) (.agg #[.int .i64 0, (.slice (some ⟨n22, 0, none⟩) q4 q4), (.slice (some ⟨n25, 0, none⟩) d4 d4), .bool false])) (some 46) (.agg #[.int .u8 (kd : Int), .int .u8 0, .int .i64 0, (.slice (some ⟨n22, 0, none⟩) q4 q4), (.slice (some ⟨n25, 0, none⟩) d4 d4), .bool false, .bool false, .int .i64 0, .int .i64 0, .int .i64 0])) wv := by
              intro n22 n25 n44 wv hBv hv22 hv25 hv44
              have HBv := hid hBv
              have HV22 := hid hv22
              have HV25 := hid hv25
              have HV44 := hid hv44
              clear hBv hv22 hv25 hv44
              rw [hG]
              simp only [ha0, Act.put, List.getElem_toArray, List.getElem_cons_succ, List.getElem_cons_zero, List.setIfInBounds_toArray, List.set_cons_zero, List.set_cons_succ]
              refine wpHJ_only 47 (by kernel_rfl) rfl ?_
              intro K hK
              go_simp
              have HO254 := hid (nums_lit2 wv 18446744073709551615 i 37)
              have HV254_22 := hid (nll_al HV22.out (.cells #[.int .u64 18446744073709551615, .int .u64 (i : Int)] 37))
              have HV254_25 := hid (nll_al HV25.out (.cells #[.int .u64 18446744073709551615, .int .u64 (i : Int)] 37))
              have HV254_44 := hid (nums_al HV44.out (.cells #[.int .u64 18446744073709551615, .int .u64 (i : Int)] 37))
              have HN254 := hid (HBv.out.alloc HBv.out.size (.cells #[.int .u64 18446744073709551615, .int .u64 (i : Int)] 37))
              generalize wv.alloc (.cells #[.int .u64 18446744073709551615, .int .u64 (i : Int)] 37) = w254 at *
              generalize wv.heap.size = n254 at *
              refine hK _ _ (.inr (.inr (HSS.out _ HN254.out))) ?_
              clear hK K
              exact hG2 _ _ _ _ _ (by kernel_rfl) (K22_25_44_47 n22 n25 n44 n254 w254 HN254.out HV254_22.out HV254_25.out HV254_44.out HO254.out)
            simp only [ha0, Act.put, List.getElem_toArray, List.getElem_cons_succ, List.getElem_cons_zero, List.setIfInBounds_toArray, List.set_cons_zero, List.set_cons_succ] at K22_25_44
            have K22_25_47 : ∀ (n22 n25 n47 : Nat) (wv : World), Below wl.heap.size wl wv → NLL (fun i => i < wv.heap.size) wv (.slice (some ⟨n22, 0, none⟩) q4 q4) (List.replicate q4 []) → NLL (fun i => i < wv.heap.size) wv (.slice (some ⟨n25, 0, none⟩) d4 d4) (List.replicate d4 []) → Nums (fun i => i < wv.heap.size) wv (.slice (some ⟨n47, 0, none⟩) 2 2) [18446744073709551615, i] → G 6 #[true, true, true, true, true, true, true, true, true, true, true, true, true, true, true, true, true, true, true, true, true, true, true, true, true, true, true, true, true, true, true, true, true, true, true, true, true, true, true, true, true, true, true, true, false, true, true, true, false, true, true, false, false, false, false] (Act.put (Act.put (Act.put (Act.put (Act.put a0 (some 41) (.slice (some ⟨n22, 0, none⟩) q4 q4)) (some 44) (.slice (some ⟨n25, 0, none⟩) d4 d4)) (some 66) (.slice (some ⟨n47, 0, none⟩) 2 2)) (some 45) (.agg #[.int .i64 0, (.slice (some ⟨n22, 0, none⟩) q4 q4), (.slice (some ⟨n25, 0, none⟩) d4 d4), .bool false])) (some 46) (.agg #[.int .u8 (kd : Int), .int .u8 0, .int .i64 0, (.slice (some ⟨n22, 0, none⟩) q4 q4), (.slice (some ⟨n25, 0, none⟩) d4 d4), .bool false, .bool false, .int .i64 0, .int .i64 0, .int .i64 0])) wv := by
              intro n22 n25 n47 wv hBv hv22 hv25 hv47
              have HBv := hid hBv
              have HV22 := hid hv22
              have HV25 := hid hv25
              have HV47 := hid hv47
              clear hBv hv22 hv25 hv47
              rw [hG]
              simp only [ha0, Act.put, List.getElem_toArray, List.getElem_cons_succ, List.getElem_cons_zero, List.setIfInBounds_toArray, List.set_cons_zero, List.set_cons_succ]
              refine wpHJ_only 44 (by kernel_rfl) rfl ?_
              intro K hK
              go_simp
              have HO265 := hid (nums_made0 wv 37)
              have HV265_22 := hid (nll_al HV22.out (.cells #[] 37))
              have HV265_25 := hid (nll_al HV25.out (.cells #[] 37))
              have HV265_47 := hid (nums_al HV47.out (.cells #[] 37))
              have HN265 := hid (HBv.out.alloc HBv.out.size (.cells #[] 37))
              generalize wv.alloc (.cells #[] 37) = w265 at *
              generalize wv.heap.size = n265 at *
              refine hK _ _ (.inr (.inr (HSS.out _ HN265.out))) ?_
              clear hK K
              exact hG2 _ _ _ _ _ (by kernel_rfl) (K22_25_44_47 n22 n25 n265 n47 w265 HN265.out HV265_22.out HV265_25.out HO265.out HV265_47.out)
            simp only [ha0, Act.put, List.getElem_toArray, List.getElem_cons_succ, List.getElem_cons_zero, List.setIfInBounds_toArray, List.set_cons_zero, List.set_cons_succ] at K22_25_47
            have K22_44_47 : ∀ (n22 n44 n47 : Nat) (wv : World), Below wl.heap.size wl wv → NLL (fun i => i < wv.heap.size) wv (.slice (some ⟨n22, 0, none⟩) q4 q4) (List.replicate q4 []) → Nums (fun i => i < wv.heap.size) wv (.slice (some ⟨n44, 0, none⟩) 0 0) [] → Nums (fun i => i < wv.heap.size) wv (.slice (some ⟨n47, 0, none⟩) 2 2) [18446744073709551615, i] → G 8 #[true, true, true, true, true, true, true, true, true, true, true, true, true, true, true, true, true, true, true, true, true, true, true, true, true, false, false, false, true, true, true, true, true, true, true, true, true, true, true, true, true, true, true, true, true, true, true, true, false, true, true, false, false, false, false] (Act.put (Act.put (Act.put a0 (some 41) (.slice (some ⟨n22, 0, none⟩) q4 q4)) (some 63) (.slice (some ⟨n44, 0, none⟩) 0 0)) (some 66) (.slice (some ⟨n47, 0, none⟩) 2 2)) wv := by
              intro n22 n44 n47 wv hBv hv22 hv44 hv47
              have HBv := hid hBv
              have HV22 := hid hv22
              have HV44 := hid hv44
              have HV47 := hid hv47
              clear hBv hv22 hv44 hv47
              rw [hG]
              simp only [ha0, Act.put, List.getElem_toArray, List.getElem_cons_succ, List.getElem_cons_zero, List.setIfInBounds_toArray, List.set_cons_zero, List.set_cons_succ]
              refine wpHJ_both 25 48 (by kernel_rfl) rfl rfl ?_ ?_
              · intro K hK
                go_simp
                have HO275 := hid (nll_made wv d4 (by omega) 36)
                have HV275_22 := hid (nll_al HV22.out (.cells (madeCells #[.slice none 0 0] d4) 36))
                have HV275_44 := hid (nums_al HV44.out (.cells (madeCells #[.slice none 0 0] d4) 36))
                have HV275_47 := hid (nums_al HV47.out (.cells (madeCells #[.slice none 0 0] d4) 36))
                have HN275 := hid (HBv.out.alloc HBv.out.size (.cells (madeCells #[.slice none 0 0] d4) 36))
                generalize wv.alloc (.cells (madeCells #[.slice none 0 0] d4) 36) = w275 at *
                generalize wv.heap.size = n275 at *
                refine hK _ _ (.inr (.inr (HSS.out _ HN275.out))) ?_
                clear hK K
                refine wpHJ_pure (v := ?ve26_278) 26 fT rfl (by kernel_rfl) nE (Or.inl ⟨by rfl, ?ye26_278⟩) (.inr (HSS.out _ HN275.out)) ?re26_278
                case ye26_278 => (intro w' _; go_simp; try rfl)
                simp only [Act.put, List.getElem_toArray, List.getElem_cons_succ, List.getElem_cons_zero, List.setIfInBounds_toArray, List.set_cons_zero, List.set_cons_succ]
                refine wpHJ_pure (v := ?ve27_279) 27 fT rfl (by kernel_rfl) nE (Or.inl ⟨by rfl, ?ye27_279⟩) (.inr (HSS.out _ HN275.out)) ?re27_279
                case ye27_279 => (intro w' _; go_simp; try rfl)
                simp only [Act.put, List.getElem_toArray, List.getElem_cons_succ, List.getElem_cons_zero, List.setIfInBounds_toArray, List.set_cons_zero, List.set_cons_succ]
                exact hG2 _ _ _ _ _ (by kernel_rfl) (K22_25_44_47 n22 n275 n44 n47 w275 HN275.out HV275_22.out HO275.out HV275_44.out HV275_47.out)
              · intro K hK
                go_simp
                have HO281 := hid (nll_two wv HV44.out HV47.out 36)
                have HV281_22 := hid (nll_al HV22.out (.cells #[.slice (some ⟨n44, 0, none⟩) 0 0, .slice (some ⟨n47, 0, none⟩) 2 2] 36))
                have HN281 := hid (HBv.out.alloc HBv.out.size (.cells #[.slice (some ⟨n44, 0, none⟩) 0 0, .slice (some ⟨n47, 0, none⟩) 2 2] 36))
                generalize wv.alloc (.cells #[.slice (some ⟨n44, 0, none⟩) 0 0, .slice (some ⟨n47, 0, none⟩) 2 2] 36) = w281 at *
                generalize wv.heap.size = n281 at *
                refine hK _ _ (.inr (.inr (HSS.out _ HN281.out))) ?_
                clear hK K
                refine wpHJ_pure (v := ?ve51_285) 51 fT rfl (by kernel_rfl) nE (Or.inl ⟨by rfl, ?ye51_285⟩) (.inr (HSS.out _ HN281.out)) ?re51_285
                case ye51_285 => (intro w' _; go_simp; try rfl)
                simp only [Act.put, List.getElem_toArray, List.getElem_cons_succ, List.getElem_cons_zero, List.setIfInBounds_toArray, List.set_cons_zero, List.set_cons_succ]
                refine wpHJ_pure (v := ?ve52_287) 52 fT rfl (by kernel_rfl) nE (Or.inl ⟨by rfl, ?ye52_287⟩) (.inr (HSS.out _ HN281.out)) ?re52_287
                case ye52_287 => (intro w' _; go_simp; try rfl)
                simp only [Act.put, List.getElem_toArray, List.getElem_cons_succ, List.getElem_cons_zero, List.setIfInBounds_toArray, List.set_cons_zero, List.set_cons_succ]
                exact hG2 _ _ _ _ _ (by kernel_rfl) (K22_44_47_48 n22 n44 n47 n281 w281 HN281.out HV281_22.out HO281.out)
            simp only [ha0, Act.put, List.getElem_toArray, List.getElem_cons_succ, List.getElem_cons_zero, List.setIfInBounds_toArray, List.set_cons_zero, List.set_cons_succ] at K22_44_47
            have K25_44_47 : ∀ (n25 n44 n47 : Nat) (wv : World), Below wl.heap.size wl wv → NLL (fun i => i < wv.heap.size) wv (.slice (some ⟨n25, 0, none⟩) d4 d4) (List.replicate d4 []) → Nums (fun i => i < wv.heap.size) wv (.slice (some ⟨n44, 0, none⟩) 0 0) [] → Nums (fun i => i < wv.heap.size) wv (.slice (some ⟨n47, 0, none⟩) 2 2) [18446744073709551615, i] → G 8 #[true, true, true, true, true, true, true, true, true, true, true, true, true, true, true, true, true, true, true, true, true, true, false, true, true, true, false, false, true, true, true, true, true, true, true, true, true, true, true, true, true, true, true, true, true, true, true, true, false, true, true, false, false, false, false] (Act.put (Act.put (Act.put a0 (some 44) (.slice (some ⟨n25, 0, none⟩) d4 d4)) (some 63) (.slice (some ⟨n44, 0, none⟩) 0 0)) (some 66) (.slice (some ⟨n47, 0, none⟩) 2 2)) wv := by
              intro n25 n44 n47 wv hBv hv25 hv44 hv47
              have HBv := hid hBv
              have HV25 := hid hv25
              have HV44 := hid hv44
              have HV47 := hid hv47
              clear hBv hv25 hv44 hv47
              rw [hG]
              simp only [ha0, Act.put, List.getElem_toArray, List.getElem_cons_succ, List.getElem_cons_zero, List.setIfInBounds_toArray, List.set_cons_zero, List.set_cons_succ]
              refine wpHJ_both 22 48 (by kernel_rfl) rfl rfl ?_ ?_
              · intro K hK
                go_simp
                have HO293 := hid (nll_made wv q4 hq4 36)
                have HV293_25 := hid (nll_al HV25.out (.cells (madeCells #[.slice none 0 0] q4) 36))
                have HV293_44 := hid (nums_al HV44.out (.cells (madeCells #[.slice none 0 0] q4) 36))
                have HV293_47 := hid (nums_al HV47.out (.cells (madeCells #[.slice none 0 0] q4) 36))
                have HN293 := hid (HBv.out.alloc HBv.out.size (.cells (madeCells #[.slice none 0 0] q4) 36))
                generalize wv.alloc (.cells (madeCells #[.slice none 0 0] q4) 36) = w293 at *
                generalize wv.heap.size = n293 at *
                refine hK _ _ (.inr (.inr (HSS.out _ HN293.out))) ?_
                clear hK K
                refine wpHJ_pure (v := ?ve26_296) 26 fT rfl (by kernel_rfl) nE (Or.inl ⟨by rfl, ?ye26_296⟩) (.inr (HSS.out _ HN293.out)) ?re26_296
                case ye26_296 => (intro w' _; go_simp; try rfl)
                simp only [Act.put, List.getElem_toArray, List.getElem_cons_succ, List.getElem_cons_zero, List.setIfInBounds_toArray, List.set_cons_zero, List.set_cons_succ]
                refine wpHJ_pure (v := ?ve27_297) 27 fT rfl (by kernel_rfl) nE (Or.inl ⟨by rfl, ?ye27_297⟩) (.inr (HSS.out _ HN293.out)) ?re27_297
                case ye27_297 => (intro w' _; go_simp; try rfl)
                simp only [Act.put, List.getElem_toArray, List.getElem_cons_succ, List.getElem_cons_zero, List.setIfInBounds_toArray, List.set_cons_zero, List.set_cons_succ]
                exact hG2 _ _ _ _ _ (by kernel_rfl) (K22_25_44_47 n293 n25 n44 n47 w293 HN293.out HO293.out HV293_25.out HV293_44.out HV293_47.out)
              · intro K hK
                go_simp
                have HO299 := hid (nll_two wv HV44.out HV47.out 36)
                have HV299_25 := hid (nll_al HV25.out (.cells #[.slice (some ⟨n44, 0, none⟩) 0 0, .slice (some ⟨n47, 0, none⟩) 2 2] 36))
                have HN299 := hid (HBv.out.alloc HBv.out.size (.cells #[.slice (some ⟨n44, 0, none⟩) 0 0, .slice (some ⟨n47, 0, none⟩) 2 2] 36))
                generalize wv.alloc (.cells #[.slice (some ⟨n44, 0, none⟩) 0 0, .slice (some ⟨n47, 0, none⟩) 2 2] 36) = w299 at *
                generalize wv.heap.size = n299 at *
                refine hK _ _ (.inr (.inr (HSS.out _ HN299.out))) ?_
                clear hK K
                refine wpHJ_pure (v := ?ve51_303) 51 fT rfl (by kernel_rfl) nE (Or.inl ⟨by rfl, ?ye51_303⟩) (.inr (HSS.out _ HN299.out)) ?re51_303
                case ye51_303 => (intro w' _; go_simp; try rfl)
                simp only [Act.put, List.getElem_toArray, List.getElem_cons_succ, List.getElem_cons_zero, List.setIfInBounds_toArray, List.set_cons_zero, List.set_cons_succ]
                refine wpHJ_pure (v := ?ve52_305) 52 fT rfl (by kernel_rfl) nE (Or.inl ⟨by rfl, ?ye52_305⟩) (.inr (HSS.out _ HN299.out)) ?re52_305
                case ye52_305 => (intro w' _; go_simp; try rfl)
                simp only [Act.put, List.getElem_toArray, List.getElem_cons_succ, List.getElem_cons_zero, List.setIfInBounds_toArray, List.set_cons_zero, List.set_cons_succ]
                exact hG2 _ _ _ _ _ (by kernel_rfl) (K25_44_47_48 n25 n44 n47 n299 w299 HN299.out HV299_25.out HO299.out)
            simp only [ha0, Act.put, List.getElem_toArray, List.getElem_cons_succ, List.getElem_cons_zero, List.setIfInBounds_toArray, List.set_cons_zero, List.set_cons_succ] at K25_44_47
            have K44_47_48 : ∀ (n44 n47 n48 : Nat) (wv : World), Below wl.heap.size wl wv → NLL (fun i => i < wv.heap.size) wv (.slice (some ⟨n48, 0, none⟩) 2 2) [[], [18446744073709551615, i]] → G 6 #[true, true, true, true, true, true, true, true, true, true, true, true, true, true, true, true, true, true, true, true, true, true, false, true, true, false, false, false, true, true, true, true, true, true, true, true, true, true, true, true, true, true, true, true, true, true, true, true, true, true, true, true, true, false, false] (Act.put (Act.put (Act.put (Act.put (Act.put a0 (some 63) (.slice (some ⟨n44, 0, none⟩) 0 0)) (some 66) (.slice (some ⟨n47, 0, none⟩) 2 2)) (some 67) (.slice (some ⟨n48, 0, none⟩) 2 2)) (some 70) (.agg #[.int .i64 (r3 : Int), (.slice (some ⟨n48, 0, none⟩) 2 2), .slice none 0 0, .bool false])) (some 71) (.agg #[.int .u8 (kd : Int), .int .u8 0, .int .i64 (r3 : Int), (.slice (some ⟨n48, 0, none⟩) 2 2), .slice none 0 0, .bool false, .bool false, .int .i64 0, .int .i64 0, .int .i64 0])) wv := by
              intro n44 n47 n48 wv hBv hv48
              have HBv := hid hBv
              have HV48 := hid hv48
              clear hBv hv48
              rw [hG]
              simp only [ha0, Act.put, List.getElem_toArray, List.getElem_cons_succ, List.getElem_cons_zero, List.setIfInBounds_toArray, List.set_cons_zero, List.set_cons_succ]
              refine wpHJ_both 22 25 (by kernel_rfl) rfl rfl ?_ ?_
              · intro K hK
                go_simp
                have HO317 := hid (nll_made wv q4 hq4 36)
                have HV317_48 := hid (nll_al HV48.out (.cells (madeCells #[.slice none 0 0] q4) 36))
                have HN317 := hid (HBv.out.alloc HBv.out.size (.cells (madeCells #[.slice none 0 0] q4) 36))
                generalize wv.alloc (.cells (madeCells #[.slice none 0 0] q4) 36) = w317 at *
                generalize wv.heap.size = n317 at *
                refine hK _ _ (.inr (.inr (HSS.out _ HN317.out))) ?_
                clear hK K
                exact hG2 _ _ _ _ _ (by kernel_rfl) (K22_44_47_48 n317 n44 n47 n48 w317 HN317.out HO317.out HV317_48.out)
              · intro K hK
                go_simp
                have HO327 := hid (nll_made wv d4 (by omega) 36)
                have HV327_48 := hid (nll_al HV48.out (.cells (madeCells #[.slice none 0 0] d4) 36))
                have HN327 := hid (HBv.out.alloc HBv.out.size (.cells (madeCells #[.slice none 0 0] d4) 36))
                generalize wv.alloc (.cells (madeCells #[.slice none 0 0] d4) 36) = w327 at *
                generalize wv.heap.size = n327 at *
                refine hK _ _ (.inr (.inr (HSS.out _ HN327.out))) ?_
                clear hK K
                exact hG2 _ _ _ _ _ (by kernel_rfl) (K25_44_47_48 n327 n44 n47 n48 w327 HN327.out HO327.out HV327_48.out)
            simp only [ha0, Act.put, List.getElem_toArray, List.getElem_cons_succ, List.getElem_cons_zero, List.setIfInBounds_toArray, List.set_cons_zero, List.set_cons_succ] at K44_47_48
            have K22_25 : ∀ (n22 n25 : Nat) (wv : World), Below wl.heap.size wl wv → NLL (fun i => i < wv.heap.size) wv (.slice (some ⟨n22, 0, none⟩) q4 q4) (List.replicate q4 []) → NLL (fun i => i < wv.heap.size) wv (.slice (some ⟨n25, 0, none⟩) d4 d4) (List.replicate d4 []) → G 7 #[true, true, true, true, true, true, true, true, true, true, true, true, true, true, true, true, true, true, true, true, true, true, true, true, true, true, true, true, true, true, true, true, true, true, true, true, true, true, true, true, true, true, true, true, false, true, true, false, false, true, true, false, false, false, false] (Act.put (Act.put (Act.put (Act.put a0 (some 41) (.slice (some ⟨n22, 0, none⟩) q4 q4)) (some 44) (.slice (some ⟨n25, 0, none⟩) d4 d4)) (some 45) (.agg #[.int .i64 0, (.slice (some ⟨n22, 0, none⟩) q4 q4), (.slice (some ⟨n25, 0, none⟩) d4 d4), .bool false])) (some 46) (.agg #[.int .u8 (kd : Int), .int .u8 0, .int .i64 0, (.slice (some ⟨n22, 0, none⟩) q4 q4), (.slice (some ⟨n25, 0, none⟩) d4 d4), .bool false, .bool false, .int .i64 0, .int .i64 0, .int .i64 0])) wv := by
              intro n22 n25 wv hBv hv22 hv25
              have HBv := hid hBv
              have HV22 := hid hv22
              have HV25 := hid hv25
              clear hBv hv22 hv25
              rw [hG]
              simp only [ha0, Act.put, List.getElem_toArray, List.getElem_cons_succ, List.getElem_cons_zero, List.setIfInBounds_toArray, List.set_cons_zero, List.set_cons_succ]
              refine wpHJ_both 44 47 (by kernel_rfl) rfl rfl ?_ ?_
              · intro K hK
                go_simp
                have HO349 := hid (nums_made0 wv 37)
                have HV349_22 := hid (nll_al HV22.out (.cells #[] 37))
                have HV349_25 := hid (nll_al HV25.out (.cells #[] 37))
                have HN349 := hid (HBv.out.alloc HBv.out.size (.cells #[] 37))
                generalize wv.alloc (.cells #[] 37) = w349 at *
                generalize wv.heap.size = n349 at *
                refine hK _ _ (.inr (.inr (HSS.out _ HN349.out))) ?_
                clear hK K
                exact hG2 _ _ _ _ _ (by kernel_rfl) (K22_25_44 n22 n25 n349 w349 HN349.out HV349_22.out HV349_25.out HO349.out)
              · intro K hK
                go_simp
                have HO355 := hid (nums_lit2 wv 18446744073709551615 i 37)
                have HV355_22 := hid (nll_al HV22.out (.cells #[.int .u64 18446744073709551615, .int .u64 (i : Int)] 37))
                have HV355_25 := hid (nll_al HV25.out (.cells #[.int .u64 18446744073709551615, .int .u64 (i : Int)] 37))
                have HN355 := hid (HBv.out.alloc HBv.out.size (.cells #[.int .u64 18446744073709551615, .int .u64 (i : Int)] 37))
                generalize wv.alloc (.cells #[.int .u64 18446744073709551615, .int .u64 (i : Int)] 37) = w355 at *
                generalize wv.heap.size = n355 at *
                refine hK _ _ (.inr (.inr (HSS.out _ HN355.out))) ?_
                clear hK K
                exact hG2 _ _ _ _ _ (by kernel_rfl) (K22_25_47 n22 n25 n355 w355 HN355.out HV355_22.out HV355_25.out HO355.out)
            simp only [ha0, Act.put, List.getElem_toArray, List.getElem_cons_succ, List.getElem_cons_zero, List.setIfInBounds_toArray, List.set_cons_zero, List.set_cons_succ] at K22_25
            have K22_44 : ∀ (n22 n44 : Nat) (wv : World), Below wl.heap.size wl wv → NLL (fun i => i < wv.heap.size) wv (.slice (some ⟨n22, 0, none⟩) q4 q4) (List.replicate q4 []) → Nums (fun i => i < wv.heap.size) wv (.slice (some ⟨n44, 0, none⟩) 0 0) [] → G 9 #[true, true, true, true, true, true, true, true, true, true, true, true, true, true, true, true, true, true, true, true, true, true, true, true, true, false, false, false, true, true, true, true, true, true, true, true, true, true, true, true, true, true, true, true, true, true, true, false, false, true, true, false, false, false, false] (Act.put (Act.put a0 (some 41) (.slice (some ⟨n22, 0, none⟩) q4 q4)) (some 63) (.slice (some ⟨n44, 0, none⟩) 0 0)) wv := by
              intro n22 n44 wv hBv hv22 hv44
              have HBv := hid hBv
              have HV22 := hid hv22
              have HV44 := hid hv44
              clear hBv hv22 hv44
              rw [hG]
              simp only [ha0, Act.put, List.getElem_toArray, List.getElem_cons_succ, List.getElem_cons_zero, List.setIfInBounds_toArray, List.set_cons_zero, List.set_cons_succ]
              refine wpHJ_both 25 47 (by kernel_rfl) rfl rfl ?_ ?_
              · intro K hK
                go_simp
                have HO367 := hid (nll_made wv d4 (by omega) 36)
                have HV367_22 := hid (nll_al HV22.out (.cells (madeCells #[.slice none 0 0] d4) 36))
                have HV367_44 := hid (nums_al HV44.out (.cells (madeCells #[.slice none 0 0] d4) 36))
                have HN367 := hid (HBv.out.alloc HBv.out.size (.cells (madeCells #[.slice none 0 0] d4) 36))
                generalize wv.alloc (.cells (madeCells #[.slice none 0 0] d4) 36) = w367 at *
                generalize wv.heap.size = n367 at *
                refine hK _ _ (.inr (.inr (HSS.out _ HN367.out))) ?_
                clear hK K
                refine wpHJ_pure (v := ?ve26_370) 26 fT rfl (by kernel_rfl) nE (Or.inl ⟨by rfl, ?ye26_370⟩) (.inr (HSS.out _ HN367.out)) ?re26_370
                case ye26_370 => (intro w' _; go_simp; try rfl)
                simp only [Act.put, List.getElem_toArray, List.getElem_cons_succ, List.getElem_cons_zero, List.setIfInBounds_toArray, List.set_cons_zero, List.set_cons_succ]
                refine wpHJ_pure (v := ?ve27_371) 27 fT rfl (by kernel_rfl) nE (Or.inl ⟨by rfl, ?ye27_371⟩) (.inr (HSS.out _ HN367.out)) ?re27_371
                case ye27_371 => (intro w' _; go_simp; try rfl)
                simp only [Act.put, List.getElem_toArray, List.getElem_cons_succ, List.getElem_cons_zero, List.setIfInBounds_toArray, List.set_cons_zero, List.set_cons_succ]
                exact hG2 _ _ _ _ _ (by kernel_rfl) (K22_25_44 n22 n367 n44 w367 HN367.out HV367_22.out HO367.out HV367_44.out)
              · intro K hK
                go_simp
                have HO373 := hid (nums_lit2 wv 18446744073709551615 i 37)
                have HV373_22 := hid (nll_al HV22.out (.cells #[.int .u64 18446744073709551615, .int .u64 (i : Int)] 37))
                have HV373_44 := hid (nums_al HV44.out (.cells #[.int .u64 18446744073709551615, .int .u64 (i : Int)] 37))
                have HN373 := hid (HBv.out.alloc HBv.out.size (.cells #[.int .u64 18446744073709551615, .int .u64 (i : Int)] 37))
                generalize wv.alloc (.cells #[.int .u64 18446744073709551615, .int .u64 (i : Int)] 37) = w373 at *
                generalize wv.heap.size = n373 at *
                refine hK _ _ (.inr (.inr (HSS.out _ HN373.out))) ?_
                clear hK K
                exact hG2 _ _ _ _ _ (by kernel_rfl) (K22_44_47 n22 n44 n373 w373 HN373.out HV373_22.out HV373_44.out HO373.out)
            simp only [ha0, Act.put, List.getElem_toArray, List.getElem_cons_succ, List.getElem_cons_zero, List.setIfInBounds_toArray, List.set_cons_zero, List.set_cons_succ] at K22_44
            have K22_47 : ∀ (n22 n47 : Nat) (wv : World), Below wl.heap.size wl wv → NLL (fun i => i < wv.heap.size) wv (.slice (some ⟨n22, 0, none⟩) q4 q4) (List.replicate q4 []) → Nums (fun i => i < wv.heap.size) wv (.slice (some ⟨n47, 0, none⟩) 2 2) [18446744073709551615, i] → G 9 #[true, true, true, true, true, true, true, true, true, true, true, true, true, true, true, true, true, true, true, true, true, true, true, true, true, false, false, false, true, true, true, true, true, true, true, true, true, true, true, true, true, true, true, true, false, true, true, true, false, true, true, false, false, false, false] (Act.put (Act.put a0 (some 41) (.slice (some ⟨n22, 0, none⟩) q4 q4)) (some 66) (.slice (some ⟨n47, 0, none⟩) 2 2)) wv := by
              intro n22 n47 wv hBv hv22 hv47
              have HBv := hid hBv
              have HV22 := hid hv22
              have HV47 := hid hv47
              clear hBv hv22 hv47
              rw [hG]
              simp only [ha0, Act.put, List.getElem_toArray, List.getElem_cons_succ, List.getElem_cons_zero, List.setIfInBounds_toArray, List.set_cons_zero, List.set_cons_succ]
              refine wpHJ_both 25 44 (by kernel_rfl) rfl rfl ?_ ?_
              · intro K hK
                go_simp
                have HO382 := hid (nll_made wv d4 (by omega) 36)
                have HV382_22 := hid (nll_al HV22.out (.cells (madeCells #[.slice none 0 0] d4) 36))
                have HV382_47 := hid (nums_al HV47.out (.cells (madeCells #[.slice none 0 0] d4) 36))
                have HN382 := hid (HBv.out.alloc HBv.out.size (.cells (madeCells #[.slice none 0 0] d4) 36))
                generalize wv.alloc (.cells (madeCells #[.slice none 0 0] d4) 36) = w382 at *
                generalize wv.heap.size = n382 at *
                refine hK _ _ (.inr (.inr (HSS.out _ HN382.out))) ?_
                clear hK K
                refine wpHJ_pure (v := ?ve26_385) 26 fT rfl (by kernel_rfl) nE (Or.inl ⟨by rfl, ?ye26_385⟩) (.inr (HSS.out _ HN382.out)) ?re26_385
                case ye26_385 => (intro w' _; go_simp; try rfl)
                simp only [Act.put, List.getElem_toArray, List.getElem_cons_succ, List.getElem_cons_zero, List.setIfInBounds_toArray, List.set_cons_zero, List.set_cons_succ]
                refine wpHJ_pure (v := ?ve27_386) 27 fT rfl (by kernel_rfl) nE (Or.inl ⟨by rfl, ?ye27_386⟩) (.inr (HSS.out _ HN382.out)) ?re27_386
                case ye27_386 => (intro w' _; go_simp; try rfl)
                simp only [Act.put, List.getElem_toArray, List.getElem_cons_succ, List.getElem_cons_zero, List.setIfInBounds_toArray, List.set_cons_zero, List.set_cons_succ]
                exact hG2 _ _ _ _ _ (by kernel_rfl) (K22_25_47 n22 n382 n47 w382 HN382.out HV382_22.out HO382.out HV382_47.out)
              · intro K hK
                go_simp
                have HO388 := hid (nums_made0 wv 37)
                have HV388_22 := hid (nll_al HV22.out (.cells #[] 37))
                have HV388_47 := hid (nums_al HV47.out (.cells #[] 37))
                have HN388 := hid (HBv.out.alloc HBv.out.size (.cells #[] 37))
                generalize wv.alloc (.cells #[] 37) = w388 at *
                generalize wv.heap.size = n388 at *
                refine hK _ _ (.inr (.inr (HSS.out _ HN388.out))) ?_
                clear hK K
                exact hG2 _ _ _ _ _ (by kernel_rfl) (K22_44_47 n22 n388 n47 w388 HN388.out HV388_22.out HO388.out HV388_47.out)
            simp only [ha0, Act.put, List.getElem_toArray, List.getElem_cons_succ, List.getElem_cons_zero, List.setIfInBounds_toArray, List.set_cons_zero, List.set_cons_succ] at K22_47
            have K25_44 : ∀ (n25 n44 : Nat) (wv : World), Below wl.heap.size wl wv → NLL (fun i => i < wv.heap.size) wv (.slice (some ⟨n25, 0, none⟩) d4 d4) (List.replicate d4 []) → Nums (fun i => i < wv.heap.size) wv (.slice (some ⟨n44, 0, none⟩) 0 0) [] → G 9 #[true, true, true, true, true, true, true, true, true, true, true, true, true, true, true, true, true, true, true, true, true, true, false, true, true, true, false, false, true, true, true, true, true, true, true, true, true, true, true, true, true, true, true, true, true, true, true, false, false, true, true, false, false, false, false] (Act.put (Act.put a0 (some 44) (.slice (some ⟨n25, 0, none⟩) d4 d4)) (some 63) (.slice (some ⟨n44, 0, none⟩) 0 0)) wv := by
              intro n25 n44 wv hBv hv25 hv44
              have HBv := hid hBv
              have HV25 := hid hv25
              have HV44 := hid hv44
              clear hBv hv25 hv44
              rw [hG]
              simp only [ha0, Act.put, List.getElem_toArray, List.getElem_cons_succ, List.getElem_cons_zero, List.setIfInBounds_toArray, List.set_cons_zero, List.set_cons_succ]
              refine wpHJ_both 22 47 (by kernel_rfl) rfl rfl ?_ ?_
              · intro K hK
                go_simp
                have HO397 := hid (nll_made wv q4 hq4 36)
                have HV397_25 := hid (nll_al HV25.out (.cells (madeCells #[.slice none 0 0] q4) 36))
                have HV397_44 := hid (nums_al HV44.out (.cells (madeCells #[.slice none 0 0] q4) 36))
                have HN397 := hid (HBv.out.alloc HBv.out.size (.cells (madeCells #[.slice none 0 0] q4) 36))
                generalize wv.alloc (.cells (madeCells #[.slice none 0 0] q4) 36) = w397 at *
                generalize wv.heap.size = n397 at *
                refine hK _ _ (.inr (.inr (HSS.out _ HN397.out))) ?_
                clear hK K
                refine wpHJ_pure (v := ?ve26_400) 26 fT rfl (by kernel_rfl) nE (Or.inl ⟨by rfl, ?ye26_400⟩) (.inr (HSS.out _ HN397.out)) ?re26_400
                case ye26_400 => (intro w' _; go_simp; try rfl)
                simp only [Act.put, List.getElem_toArray, List.getElem_cons_succ, List.getElem_cons_zero, List.setIfInBounds_toArray, List.set_cons_zero, List.set_cons_succ]
                refine wpHJ_pure (v := ?ve27_401) 27 fT rfl (by kernel_rfl) nE (Or.inl ⟨by rfl, ?ye27_401⟩) (.inr (HSS.out _ HN397.out)) ?re27_401
                case ye27_401 => (intro w' _; go_simp; try rfl)
                simp only [Act.put, List.getElem_toArray, List.getElem_cons_succ, List.getElem_cons_zero, List.setIfInBounds_toArray, List.set_cons_zero, List.set_cons_succ]
                exact hG2 _ _ _ _ _ (by kernel_rfl) (K22_25_44 n397 n25 n44 w397 HN397.out HO397.out HV397_25.out HV397_44.out)
              · intro K hK
                go_simp
                have HO403 := hid (nums_lit2 wv 18446744073709551615 i 37)
                have HV403_25 := hid (nll_al HV25.out (.cells #[.int .u64 18446744073709551615, .int .u64 (i : Int)] 37))
                have HV403_44 := hid (nums_al HV44.out (.cells #[.int .u64 18446744073709551615, .int .u64 (i : Int)] 37))
                have HN403 := hid (HBv.out.alloc HBv.out.size (.cells #[.int .u64 18446744073709551615, .int .u64 (i : Int)] 37))
                generalize wv.alloc (.cells #[.int .u64 18446744073709551615, .int .u64 (i : Int)] 37) = w403 at *
                generalize wv.heap.size = n403 at *
                refine hK _ _ (.inr (.inr (HSS.out _ HN403.out))) ?_
                clear hK K
                exact hG2 _ _ _ _ _ (by kernel_rfl) (K25_44_47 n25 n44 n403 w403 HN403.out HV403_25.out HV403_44.out HO403.out)
            simp only [ha0, Act.put, List.getElem_toArray, List.getElem_cons_succ, List.getElem_cons_zero, List.setIfInBounds_toArray, List.set_cons_zero, List.set_cons_succ] at K25_44
            have K25_47 : ∀ (n25 n47 : Nat) (wv : World), Below wl.heap.size wl wv → NLL (fun i => i < wv.heap.size) wv (.slice (some ⟨n25, 0, none⟩) d4 d4) (List.replicate d4 []) → Nums (fun i => i < wv.heap.size) wv (.slice (some ⟨n47, 0, none⟩) 2 2) [18446744073709551615, i] → G 9 #[true, true, true, true, true, true, true, true, true, true, true, true, true, true, true, true, true, true, true, true, true, true, false, true, true, true, false, false, true, true, true, true, true, true, true, true, true, true, true, true, true, true, true, true, false, true, true, true, false, true, true, false, false, false, false] (Act.put (Act.put a0 (some 44) (.slice (some ⟨n25, 0, none⟩) d4 d4)) (some 66) (.slice (some ⟨n47, 0, none⟩) 2 2)) wv := by
              intro n25 n47 wv hBv hv25 hv47
              have HBv := hid hBv
              have HV25 := hid hv25
              have HV47 := hid hv47
              clear hBv hv25 hv47
              rw [hG]
              simp only [ha0, Act.put, List.getElem_toArray, List.getElem_cons_succ, List.getElem_cons_zero, List.setIfInBounds_toArray, List.set_cons_zero, List.set_cons_succ]
              refine wpHJ_both 22 44 (by kernel_rfl) rfl rfl ?_ ?_
              · intro K hK
                go_simp
                have HO412 := hid (nll_made wv q4 hq4 36)
                have HV412_25 := hid (nll_al HV25.out (.cells (madeCells #[.slice none 0 0] q4) 36))
                have HV412_47 := hid (nums_al HV47.out (.cells (madeCells #[.slice none 0 0] q4) 36))
                have HN412 := hid (HBv.out.alloc HBv.out.size (.cells (madeCells #[.slice none 0 0] q4) 36))
                generalize wv.alloc (.cells (madeCells #[.slice none 0 0] q4) 36) = w412 at *
                generalize wv.heap.size = n412 at *
                refine hK _ _ (.inr (.inr (HSS.out _ HN412.out))) ?_
                clear hK K
                refine wpHJ_pure (v := ?ve26_415) 26 fT rfl (by kernel_rfl) nE (Or.inl ⟨by rfl, ?ye26_415⟩) (.inr (HSS.out _ HN412.out)) ?re26_415
                case ye26_415 => (intro w' _; go_simp; try rfl)
                simp only [Act.put, List.getElem_toArray, List.getElem_cons_succ, List.getElem_cons_zero, List.setIfInBounds_toArray, List.set_cons_zero, List.set_cons_succ]
                refine wpHJ_pure (v := ?ve27_416) 27 fT rfl (by kernel_rfl) nE (Or.inl ⟨by rfl, ?ye27_416⟩) (.inr (HSS.out _ HN412.out)) ?re27_416
                case ye27_416 => (intro w' _; go_simp; try rfl)
                simp only [Act.put, List.getElem_toArray, List.getElem_cons_succ, List.getElem_cons_zero, List.setIfInBounds_toArray, List.set_cons_zero, List.set_cons_succ]
                exact hG2 _ _ _ _ _ (by kernel_rfl) (K22_25_47 n412 n25 n47 w412 HN412.out HO412.out HV412_25.out HV412_47.out)
              · intro K hK
                go_simp
                have HO418 := hid (nums_made0 wv 37)
                have HV418_25 := hid (nll_al HV25.out (.cells #[] 37))
                have HV418_47 := hid (nums_al HV47.out (.cells #[] 37))
                have HN418 := hid (HBv.out.alloc HBv.out.size (.cells #[] 37))
                generalize wv.alloc (.cells #[] 37) = w418 at *
                generalize wv.heap.size = n418 at *
                refine hK _ _ (.inr (.inr (HSS.out _ HN418.out))) ?_
                clear hK K
                exact hG2 _ _ _ _ _ (by kernel_rfl) (K25_44_47 n25 n418 n47 w418 HN418.out HV418_25.out HO418.out HV418_47.out)
            simp only [ha0, Act.put, List.getElem_toArray, List.getElem_cons_succ, List.getElem_cons_zero, List.setIfInBounds_toArray, List.set_cons_zero, List.set_cons_succ] at K25_47
            have K44_47 : ∀ (n44 n47 : Nat) (wv : World), Below wl.heap.size wl wv → Nums (fun i => i < wv.heap.size) wv (.slice (some ⟨n44, 0, none⟩) 0 0) [] → Nums (fun i => i < wv.heap.size) wv (.slice (some ⟨n47, 0, none⟩) 2 2) [18446744073709551615, i] → G 9 #[true, true, true, true, true, true, true, true, true, true, true, true, true, true, true, true, true, true, true, true, true, true, false, true, true, false, false, false, true, true, true, true, true, true, true, true, true, true, true, true, true, true, true, true, true, true, true, true, false, true, true, false, false, false, false] (Act.put (Act.put a0 (some 63) (.slice (some ⟨n44, 0, none⟩) 0 0)) (some 66) (.slice (some ⟨n47, 0, none⟩) 2 2)) wv := by
              intro n44 n47 wv hBv hv44 hv47
              have HBv := hid hBv
              have HV44 := hid hv44
              have HV47 := hid hv47
              clear hBv hv44 hv47
              rw [hG]
              simp only [ha0, Act.put, List.getElem_toArray, List.getElem_cons_succ, List.getElem_cons_zero, List.setIfInBounds_toArray, List.set_cons_zero, List.set_cons_succ]
              refine wpHJ_three 22 25 48 (by kernel_rfl) rfl rfl rfl ?_ ?_ ?_
              · intro K hK
                go_simp
                have HO428 := hid (nll_made wv q4 hq4 36)
                have HV428_44 := hid (nums_al HV44.out (.cells (madeCells #[.slice none 0 0] q4) 36))
                have HV428_47 := hid (nums_al HV47.out (.cells (madeCells #[.slice none 0 0] q4) 36))
                have HN428 := hid (HBv.out.alloc HBv.out.size (.cells (madeCells #[.slice none 0 0] q4) 36))
                generalize wv.alloc (.cells (madeCells #[.slice none 0 0] q4) 36) = w428 at *
                generalize wv.heap.size = n428 at *
                refine hK _ _ (.inr (.inr (HSS.out _ HN428.out))) ?_
                clear hK K
                exact hG2 _ _ _ _ _ (by kernel_rfl) (K22_44_47 n428 n44 n47 w428 HN428.out HO428.out HV428_44.out HV428_47.out)
              · intro K hK
                go_simp
                have HO434 := hid (nll_made wv d4 (by omega) 36)
                have HV434_44 := hid (nums_al HV44.out (.cells (madeCells #[.slice none 0 0] d4) 36))
                have HV434_47 := hid (nums_al HV47.out (.cells (madeCells #[.slice none 0 0] d4) 36))
                have HN434 := hid (HBv.out.alloc HBv.out.size (.cells (madeCells #[.slice none 0 0] d4) 36))
                generalize wv.alloc (.cells (madeCells #[.slice none 0 0] d4) 36) = w434 at *
                generalize wv.heap.size = n434 at *
                refine hK _ _ (.inr (.inr (HSS.out _ HN434.out))) ?_
                clear hK K
                exact hG2 _ _ _ _ _ (by kernel_rfl) (K25_44_47 n434 n44 n47 w434 HN434.out HO434.out HV434_44.out HV434_47.out)
              · intro K hK
                go_simp
                have HO440 := hid (nll_two wv HV44.out HV47.out 36)
                have HN440 := hid (HBv.out.alloc HBv.out.size (.cells #[.slice (some ⟨n44, 0, none⟩) 0 0, .slice (some ⟨n47, 0, none⟩) 2 2] 36))
                generalize wv.alloc (.cells #[.slice (some ⟨n44, 0, none⟩) 0 0, .slice (some ⟨n47, 0, none⟩) 2 2] 36) = w440 at *
                generalize wv.heap.size = n440 at *
                refine hK _ _ (.inr (.inr (HSS.out _ HN440.out))) ?_
                clear hK K
                refine wpHJ_pure (v := ?ve51_446) 51 fT rfl (by kernel_rfl) nE (Or.inl ⟨by rfl, ?ye51_446⟩) (.inr (HSS.out _ HN440.out)) ?re51_446
                case ye51_446 => (intro w' _; go_simp; try rfl)
                simp only [Act.put, List.getElem_toArray, List.getElem_cons_succ, List.getElem_cons_zero, List.setIfInBounds_toArray, List.set_cons_zero, List.set_cons_succ]
                refine wpHJ_pure (v := ?ve52_449) 52 fT rfl (by kernel_rfl) nE (Or.inl ⟨by rfl, ?ye52_449⟩) (.inr (HSS.out _ HN440.out)) ?re52_449
                case ye52_449 => (intro w' _; go_simp; try rfl)
                simp only [Act.put, List.getElem_toArray, List.getElem_cons_succ, List.getElem_cons_zero, List.setIfInBounds_toArray, List.set_cons_zero, List.set_cons_succ]
                exact hG2 _ _ _ _ _ (by kernel_rfl) (K44_47_48 n44 n47 n440 w440 HN440.out HO440.out)
            simp only [ha0, Act.put, List.getElem_toArray, List.getElem_cons_succ, List.getElem_cons_zero, List.setIfInBounds_toArray, List.set_cons_zero, List.set_cons_succ] at K44_47
            have K22 : ∀ (n22 : Nat) (wv : World), Below wl.heap.size wl wv → NLL (fun i => i < wv.heap.size) wv (.slice (some ⟨n22, 0, none⟩) q4 q4) (List.replicate q4 []) → G 10 #[true, true, true, true, true, true, true, true, true, true, true, true, true, true, true, true, true, true, true, true, true, true, true, true, true, false, false, false, true, true, true, true, true, true, true, true, true, true, true, true, true, true, true, true, false, true, true, false, false, true, true, false, false, false, false] (Act.put a0 (some 41) (.slice (some ⟨n22, 0, none⟩) q4 q4)) wv := by
              intro n22 wv hBv hv22
              have HBv := hid hBv
              have HV22 := hid hv22
              clear hBv hv22
              rw [hG]
              simp only [ha0, Act.put, List.getElem_toArray, List.getElem_cons_succ, List.getElem_cons_zero, List.setIfInBounds_toArray, List.set_cons_zero, List.set_cons_succ]
              refine wpHJ_three 25 44 47 (by kernel_rfl) rfl rfl rfl ?_ ?_ ?_
              · intro K hK
                go_simp
                have HO458 := hid (nll_made wv d4 (by omega) 36)
                have HV458_22 := hid (nll_al HV22.out (.cells (madeCells #[.slice none 0 0] d4) 36))
                have HN458 := hid (HBv.out.alloc HBv.out.size (.cells (madeCells #[.slice none 0 0] d4) 36))
                generalize wv.alloc (.cells (madeCells #[.slice none 0 0] d4) 36) = w458 at *
                generalize wv.heap.size = n458 at *
                refine hK _ _ (.inr (.inr (HSS.out _ HN458.out))) ?_
                clear hK K
                refine wpHJ_pure (v := ?ve26_462) 26 fT rfl (by kernel_rfl) nE (Or.inl ⟨by rfl, ?ye26_462⟩) (.inr (HSS.out _ HN458.out)) ?re26_462
                case ye26_462 => (intro w' _; go_simp; try rfl)
                simp only [Act.put, List.getElem_toArray, List.getElem_cons_succ, List.getElem_cons_zero, List.setIfInBounds_toArray, List.set_cons_zero, List.set_cons_succ]
                refine wpHJ_pure (v := ?ve27_463) 27 fT rfl (by kernel_rfl) nE (Or.inl ⟨by rfl, ?ye27_463⟩) (.inr (HSS.out _ HN458.out)) ?re27_463
                case ye27_463 => (intro w' _; go_simp; try rfl)
                simp only [Act.put, List.getElem_toArray, List.getElem_cons_succ, List.getElem_cons_zero, List.setIfInBounds_toArray, List.set_cons_zero, List.set_cons_succ]
                exact hG2 _ _ _ _ _ (by kernel_rfl) (K22_25 n22 n458 w458 HN458.out HV458_22.out HO458.out)
              · intro K hK
                go_simp
                have HO466 := hid (nums_made0 wv 37)
                have HV466_22 := hid (nll_al HV22.out (.cells #[] 37))
                have HN466 := hid (HBv.out.alloc HBv.out.size (.cells #[] 37))
                generalize wv.alloc (.cells #[] 37) = w466 at *
                generalize wv.heap.size = n466 at *
                refine hK _ _ (.inr (.inr (HSS.out _ HN466.out))) ?_
                clear hK K
                exact hG2 _ _ _ _ _ (by kernel_rfl) (K22_44 n22 n466 w466 HN466.out HV466_22.out HO466.out)
              · intro K hK
                go_simp
                have HO472 := hid (nums_lit2 wv 18446744073709551615 i 37)
                have HV472_22 := hid (nll_al HV22.out (.cells #[.int .u64 18446744073709551615, .int .u64 (i : Int)] 37))
                have HN472 := hid (HBv.out.alloc HBv.out.size (.cells #[.int .u64 18446744073709551615, .int .u64 (i : Int)] 37))
                generalize wv.alloc (.cells #[.int .u64 18446744073709551615, .int .u64 (i : Int)] 37) = w472 at *
                generalize wv.heap.size = n472 at *
                refine hK _ _ (.inr (.inr (HSS.out _ HN472.out))) ?_
                clear hK K
                exact hG2 _ _ _ _ _ (by kernel_rfl) (K22_47 n22 n472 w472 HN472.out HV472_22.out HO472.out)
            simp only [ha0, Act.put, List.getElem_toArray, List.getElem_cons_succ, List.getElem_cons_zero, List.setIfInBounds_toArray, List.set_cons_zero, List.set_cons_succ] at K22
            have K25 : ∀ (n25 : Nat) (wv : World), Below wl.heap.size wl wv → NLL (fun i => i < wv.heap.size) wv (.slice (some ⟨n25, 0, none⟩) d4 d4) (List.replicate d4 []) → G 10 #[true, true, true, true, true, true, true, true, true, true, true, true, true, true, true, true, true, true, true, true, true, true, false, true, true, true, false, false, true, true, true, true, true, true, true, true, true, true, true, true, true, true, true, true, false, true, true, false, false, true, true, false, false, false, false] (Act.put a0 (some 44) (.slice (some ⟨n25, 0, none⟩) d4 d4)) wv := by
              intro n25 wv hBv hv25
              have HBv := hid hBv
              have HV25 := hid hv25
              clear hBv hv25
              rw [hG]
              simp only [ha0, Act.put, List.getElem_toArray, List.getElem_cons_succ, List.getElem_cons_zero, List.setIfInBounds_toArray, List.set_cons_zero, List.set_cons_succ]
              refine wpHJ_three 22 44 47 (by kernel_rfl) rfl rfl rfl ?_ ?_ ?_
              · intro K hK
                go_simp
                have HO484 := hid (nll_made wv q4 hq4 36)
                have HV484_25 := hid (nll_al HV25.out (.cells (madeCells #[.slice none 0 0] q4) 36))
                have HN484 := hid (HBv.out.alloc HBv.out.size (.cells (madeCells #[.slice none 0 0] q4) 36))
                generalize wv.alloc (.cells (madeCells #[.slice none 0 0] q4) 36) = w484 at *
                generalize wv.heap.size = n484 at *
                refine hK _ _ (.inr (.inr (HSS.out _ HN484.out))) ?_
                clear hK K
                refine wpHJ_pure (v := ?ve26_488) 26 fT rfl (by kernel_rfl) nE (Or.inl ⟨by rfl, ?ye26_488⟩) (.inr (HSS.out _ HN484.out)) ?re26_488
                case ye26_488 => (intro w' _; go_simp; try rfl)
                simp only [Act.put, List.getElem_toArray, List.getElem_cons_succ, List.getElem_cons_zero, List.setIfInBounds_toArray, List.set_cons_zero, List.set_cons_succ]
                refine wpHJ_pure (v := ?ve27_489) 27 fT rfl (by kernel_rfl) nE (Or.inl ⟨by rfl, ?ye27_489⟩) (.inr (HSS.out _ HN484.out)) ?re27_489
                case ye27_489 => (intro w' _; go_simp; try rfl)
                simp only [Act.put, List.getElem_toArray, List.getElem_cons_succ, List.getElem_cons_zero, List.setIfInBounds_toArray, List.set_cons_zero, List.set_cons_succ]
                exact hG2 _ _ _ _ _ (by kernel_rfl) (K22_25 n484 n25 w484 HN484.out HO484.out HV484_25.out)
              · intro K hK
                go_simp
                have HO492 := hid (nums_made0 wv 37)
                have HV492_25 := hid (nll_al HV25.out (.cells #[] 37))
                have HN492 := hid (HBv.out.alloc HBv.out.size (.cells #[] 37))
                generalize wv.alloc (.cells #[] 37) = w492 at *
                generalize wv.heap.size = n492 at *
                refine hK _ _ (.inr (.inr (HSS.out _ HN492.out))) ?_
                clear hK K
                exact hG2 _ _ _ _ _ (by kernel_rfl) (K25_44 n25 n492 w492 HN492.out HV492_25.out HO492.out)
              · intro K hK
                go_simp
                have HO498 := hid (nums_lit2 wv 18446744073709551615 i 37)
                have HV498_25 := hid (nll_al HV25.out (.cells #[.int .u64 18446744073709551615, .int .u64 (i : Int)] 37))
                have HN498 := hid (HBv.out.alloc HBv.out.size (.cells #[.int .u64 18446744073709551615, .int .u64 (i : Int)] 37))
                generalize wv.alloc (.cells #[.int .u64 18446744073709551615, .int .u64 (i : Int)] 37) = w498 at *
                generalize wv.heap.size = n498 at *
                refine hK _ _ (.inr (.inr (HSS.out _ HN498.out))) ?_
                clear hK K
                exact hG2 _ _ _ _ _ (by kernel_rfl) (K25_47 n25 n498 w498 HN498.out HV498_25.out HO498.out)
            simp only [ha0, Act.put, List.getElem_toArray, List.getElem_cons_succ, List.getElem_cons_zero, List.setIfInBounds_toArray, List.set_cons_zero, List.set_cons_succ] at K25
            have K44 : ∀ (n44 : Nat) (wv : World), Below wl.heap.size wl wv → Nums (fun i => i < wv.heap.size) wv (.slice (some ⟨n44, 0, none⟩) 0 0) [] → G 10 #[true, true, true, true, true, true, true, true, true, true, true, true, true, true, true, true, true, true, true, true, true, true, false, true, true, false, false, false, true, true, true, true, true, true, true, true, true, true, true, true, true, true, true, true, true, true, true, false, false, true, true, false, false, false, false] (Act.put a0 (some 63) (.slice (some ⟨n44, 0, none⟩) 0 0)) wv := by
              intro n44 wv hBv hv44
              have HBv := hid hBv
              have HV44 := hid hv44
              clear hBv hv44
              rw [hG]
              simp only [ha0, Act.put, List.getElem_toArray, List.getElem_cons_succ, List.getElem_cons_zero, List.setIfInBounds_toArray, List.set_cons_zero, List.set_cons_succ]
              refine wpHJ_three 22 25 47 (by kernel_rfl) rfl rfl rfl ?_ ?_ ?_
              · intro K hK
                go_simp
                have HO510 := hid (nll_made wv q4 hq4 36)
                have HV510_44 := hid (nums_al HV44.out (.cells (madeCells #[.slice none 0 0] q4) 36))
                have HN510 := hid (HBv.out.alloc HBv.out.size (.cells (madeCells #[.slice none 0 0] q4) 36))
                generalize wv.alloc (.cells (madeCells #[.slice none 0 0] q4) 36) = w510 at *
                generalize wv.heap.size = n510 at *
                refine hK _ _ (.inr (.inr (HSS.out _ HN510.out))) ?_
                clear hK K
                exact hG2 _ _ _ _ _ (by kernel_rfl) (K22_44 n510 n44 w510 HN510.out HO510.out HV510_44.out)
              · intro K hK
                go_simp
                have HO516 := hid (nll_made wv d4 (by omega) 36)
                have HV516_44 := hid (nums_al HV44.out (.cells (madeCells #[.slice none 0 0] d4) 36))
                have HN516 := hid (HBv.out.alloc HBv.out.size (.cells (madeCells #[.slice none 0 0] d4) 36))
                generalize wv.alloc (.cells (madeCells #[.slice none 0 0] d4) 36) = w516 at *
                generalize wv.heap.size = n516 at *
                refine hK _ _ (.inr (.inr (HSS.out _ HN516.out))) ?_
                clear hK K
                exact hG2 _ _ _ _ _ (by kernel_rfl) (K25_44 n516 n44 w516 HN516.out HO516.out HV516_44.out)
              · intro K hK
                go_simp
                have HO522 := hid (nums_lit2 wv 18446744073709551615 i 37)
                have HV522_44 := hid (nums_al HV44.out (.cells #[.int .u64 18446744073709551615, .int .u64 (i : Int)] 37))
                have HN522 := hid (HBv.out.alloc HBv.out.size (.cells #[.int .u64 18446744073709551615, .int .u64 (i : Int)] 37))
                generalize wv.alloc (.cells #[.int .u64 18446744073709551615, .int .u64 (i : Int)] 37) = w522 at *
                generalize wv.heap.size = n522 at *
                refine hK _ _ (.inr (.inr (HSS.out _ HN522.out))) ?_
                clear hK K
                exact hG2 _ _ _ _ _ (by kernel_rfl) (K44_47 n44 n522 w522 HN522.out HV522_44.out HO522.out)
            simp only [ha0, Act.put, List.getElem_toArray, List.getElem_cons_succ, List.getElem_cons_zero, List.setIfInBounds_toArray, List.set_cons_zero, List.set_cons_succ] at K44
            have K47 : ∀ (n47 : Nat) (wv : World), Below wl.heap.size wl wv → Nums (fun i => i < wv.heap.size) wv (.slice (some ⟨n47, 0, none⟩) 2 2) [18446744073709551615, i] → G 10 #[true, true, true, true, true, true, true, true, true, true, true, true, true, true, true, true, true, true, true, true, true, true, false, true, true, false, false, false, true, true, true, true, true, true, true, true, true, true, true, true, true, true, true, true, false, true, true, true, false, true, true, false, false, false, false] (Act.put a0 (some 66) (.slice (some ⟨n47, 0, none⟩) 2 2)) wv := by
              intro n47 wv hBv hv47
              have HBv := hid hBv
              have HV47 := hid hv47
              clear hBv hv47
              rw [hG]
              simp only [ha0, Act.put, List.getElem_toArray, List.getElem_cons_succ, List.getElem_cons_zero, List.setIfInBounds_toArray, List.set_cons_zero, List.set_cons_succ]
              refine wpHJ_three 22 25 44 (by kernel_rfl) rfl rfl rfl ?_ ?_ ?_
              · intro K hK
                go_simp
                have HO535 := hid (nll_made wv q4 hq4 36)
                have HV535_47 := hid (nums_al HV47.out (.cells (madeCells #[.slice none 0 0] q4) 36))
                have HN535 := hid (HBv.out.alloc HBv.out.size (.cells (madeCells #[.slice none 0 0] q4) 36))
                generalize wv.alloc (.cells (madeCells #[.slice none 0 0] q4) 36) = w535 at *
                generalize wv.heap.size = n535 at *
                refine hK _ _ (.inr (.inr (HSS.out _ HN535.out))) ?_
                clear hK K
                exact hG2 _ _ _ _ _ (by kernel_rfl) (K22_47 n535 n47 w535 HN535.out HO535.out HV535_47.out)
              · intro K hK
                go_simp
                have HO541 := hid (nll_made wv d4 (by omega) 36)
                have HV541_47 := hid (nums_al HV47.out (.cells (madeCells #[.slice none 0 0] d4) 36))
                have HN541 := hid (HBv.out.alloc HBv.out.size (.cells (madeCells #[.slice none 0 0] d4) 36))
                generalize wv.alloc (.cells (madeCells #[.slice none 0 0] d4) 36) = w541 at *
                generalize wv.heap.size = n541 at *
                refine hK _ _ (.inr (.inr (HSS.out _ HN541.out))) ?_
                clear hK K
                exact hG2 _ _ _ _ _ (by kernel_rfl) (K25_47 n541 n47 w541 HN541.out HO541.out HV541_47.out)
              · intro K hK
                go_simp
                have HO547 := hid (nums_made0 wv 37)
                have HV547_47 := hid (nums_al HV47.out (.cells #[] 37))
                have HN547 := hid (HBv.out.alloc HBv.out.size (.cells #[] 37))
                generalize wv.alloc (.cells #[] 37) = w547 at *
                generalize wv.heap.size = n547 at *
                refine hK _ _ (.inr (.inr (HSS.out _ HN547.out))) ?_
                clear hK K
                exact hG2 _ _ _ _ _ (by kernel_rfl) (K44_47 n547 n47 w547 HN547.out HO547.out HV547_47.out)
            simp only [ha0, Act.put, List.getElem_toArray, List.getElem_cons_succ, List.getElem_cons_zero, List.setIfInBounds_toArray, List.set_cons_zero, List.set_cons_succ] at K47
            subst ha0
            rw [hG]
            refine wpHJ_four 22 25 44 47 (by kernel_rfl) rfl rfl rfl rfl ?_ ?_ ?_ ?_
            · intro K hK
              go_simp
              have HO557 := hid (nll_made wd q4 hq4 36)
              have HN557 := hid (HN0.out.alloc HN0.out.size (.cells (madeCells #[.slice none 0 0] q4) 36))
              generalize wd.alloc (.cells (madeCells #[.slice none 0 0] q4) 36) = w557 at *
              generalize wd.heap.size = n557 at *
              refine hK _ _ (.inr (.inr (HSS.out _ HN557.out))) ?_
              clear hK K
              exact hG2 _ _ _ _ _ (by kernel_rfl) (K22 n557 w557 HN557.out HO557.out)
            · intro K hK
              go_simp
              have HO561 := hid (nll_made wd d4 (by omega) 36)
              have HN561 := hid (HN0.out.alloc HN0.out.size (.cells (madeCells #[.slice none 0 0] d4) 36))
              generalize wd.alloc (.cells (madeCells #[.slice none 0 0] d4) 36) = w561 at *
              generalize wd.heap.size = n561 at *
              refine hK _ _ (.inr (.inr (HSS.out _ HN561.out))) ?_
              clear hK K
              exact hG2 _ _ _ _ _ (by kernel_rfl) (K25 n561 w561 HN561.out HO561.out)
            · intro K hK
              go_simp
              have HO565 := hid (nums_made0 wd 37)
              have HN565 := hid (HN0.out.alloc HN0.out.size (.cells #[] 37))
              generalize wd.alloc (.cells #[] 37) = w565 at *
              generalize wd.heap.size = n565 at *
              refine hK _ _ (.inr (.inr (HSS.out _ HN565.out))) ?_
              clear hK K
              exact hG2 _ _ _ _ _ (by kernel_rfl) (K44 n565 w565 HN565.out HO565.out)
            · intro K hK
              go_simp
              have HO569 := hid (nums_lit2 wd 18446744073709551615 i 37)
              have HN569 := hid (HN0.out.alloc HN0.out.size (.cells #[.int .u64 18446744073709551615, .int .u64 (i : Int)] 37))
              generalize wd.alloc (.cells #[.int .u64 18446744073709551615, .int .u64 (i : Int)] 37) = w569 at *
              generalize wd.heap.size = n569 at *
              refine hK _ _ (.inr (.inr (HSS.out _ HN569.out))) ?_
              clear hK K
              exact hG2 _ _ _ _ _ (by kernel_rfl) (K47 n569 w569 HN569.out HO569.out)
          case rest =>
            obtain ⟨n7, rfl, hb7, hk7⟩ := hcut.at (by omega) hi12 hq4 hd4 hr3 (by rw [← HEE.out.1]; exact endsL_in _ _) (by rw [← HEE.out.2]; exact endsL_in _ _)
            have HBC := hid hb7; have HK7 := hid hk7
            have HBC3 := hid (HBL.out.trans (hb7.mono HBL.out.size))
            have HTC := hid (HT3.out.below HBC3.out)
            have HSL := hid (show Strs (fun i => i < wc.heap.size) wc (.slice (some ⟨w.heap.size, 0, none⟩) 2 2) [[108, 111, 119], [104, 105, 103, 104]] from strs_in HSL3.out (fun i hi => hi) HBC3.out)
            have HSC := hid (show Strs (fun i => i < wc.heap.size) wc (.slice (some ⟨w.heap.size + 1, 0, none⟩) 2 2) [[112, 117, 98], [115, 101, 99]] from strs_in HSC3.out (fun i hi => hi) HBC3.out)
            have HSP := hid (show Strs (fun i => i < wc.heap.size) wc (.slice (some ⟨w.heap.size + 1, 0, none⟩) 1 2) [[112, 117, 98]] from strs_in HSP3.out (fun i hi => hi) HBC3.out)
            clear hcut hb7 hk7
            go_wp2_with fail
            go_loopw [7] (fun kv W => ∃ k : Nat, k ≤ 7 ∧ kv = .int .i64 (k : Int) ∧ Below wc.heap.size wc W) (fun kv _ => 7 - (intOf kv).toNat)
            case atStart => exact ⟨0, by omega, rfl, Below.refl _ _⟩
            case round =>
              obtain ⟨k, hk, rfl, hbk2⟩ := hrel
              obtain ⟨wi, rfl⟩ : ∃ w : World, w = wr := ⟨_, rfl⟩
              have HBI := hid hbk2
              clear hbk2
              by_cases hlk : k < 7
              · have t3 : decide ((k : Int) < 7) = true := decide_eq_true (by omega)
                have hk7i : (k : Int) < 7 := by omega
                go_upto_region 13 with fail
                obtain ⟨x, pA, cA, pB, cB, hok, hsh, hxa, hxb, hso⟩ := HK7.out k hlk
                have HSO := hid (fun (W : World) (h : Below wc.heap.size wc W) => show So n7 (k * 10) x pA cA pB cB W from hso.below h)
                have HRL := hid (fun (W : World) (hW : Below wc.heap.size wc W) (levels chans : List By) (vl vc : Value) (h1 : Strs (fun i => i < W.heap.size) W vl levels) (h2 : Strs (fun i => i < W.heap.size) W vc chans) (h3 : levels.length ≤ 10) (h4 : chans.length ≤ 10) (h5 : ∀ s ∈ levels, s.length ≤ 40) (h6 : ∀ s ∈ chans, s.length ≤ 40) => show Calls Tryd.prog 12 #[.agg #[.int .u8 (x.kind : Int), .int .u8 (x.reason : Int), .int .i64 x.level, .slice pA x.A.length cA, .slice pB x.B.length cB, .bool x.imp, .bool x.pol, .int .i64 x.line, .int .i64 x.col, .int .i64 x.err], vl, vc] W fun e w' => e = .returned (.bool true) ∧ Below W.heap.size W w' from
                  replines_any x pA pB cA cB levels chans vl vc (fun i => i < W.heap.size) W hok (hxa.keep fun i hi => ⟨Nat.lt_of_lt_of_le hi hW.size, hW.block i hi⟩) (hxb.keep fun i hi => ⟨Nat.lt_of_lt_of_le hi hW.size, hW.block i hi⟩) (fun i hi => hi) hsh.1 hsh.2.1 hsh.2.2.1 hsh.2.2.2 h1 h2 h3 h4 h5 h6 (HTC.out.below hW))
                have HJ0 := hid (HBI.out.trans ((below_self wi).mono HBI.out.size))
                have hS : (So n7 (k * 10) x pA cA pB cB) wi.drew := HSO.out _ HJ0.out
                clear hok hsh hxa hxb hso
                have hFa : ∀ f, Fence.wide.fn f := fun _ => trivial
                refine (wpIn_wide (n := 9)).1 ?_
                refine wpIn_onlyN ?_
                refine wpIn_region_HJ (So n7 (k * 10) x pA cA pB cB) 34 (by kernel_rfl) ?_
                simp only [List.size_toArray, List.length_cons, List.length_nil, Nat.reduceAdd]
                refine wpHJ_take (v := ?vk0) 0 hFa rfl (by kernel_rfl) (fun _ _ _ h => h.elim) (Or.inl ⟨by rfl, ?yk0⟩) hS ?rk0
                case yk0 => (intro w' hS'; obtain ⟨s0, s1, s2, s3, s4, s5, s6, s7, s8, s9⟩ := hS'; go_simp; try rfl)
                simp only [Act.put, List.getElem_toArray, List.getElem_cons_succ, List.getElem_cons_zero, List.setIfInBounds_toArray, List.set_cons_zero, List.set_cons_succ]
                refine wpHJ_take (v := ?vk1) 1 hFa rfl (by kernel_rfl) (fun _ _ _ h => h.elim) (Or.inl ⟨by rfl, ?yk1⟩) hS ?rk1
                case yk1 => (intro w' hS'; obtain ⟨s0, s1, s2, s3, s4, s5, s6, s7, s8, s9⟩ := hS'; go_simp; try rfl)
                simp only [Act.put, List.getElem_toArray, List.getElem_cons_succ, List.getElem_cons_zero, List.setIfInBounds_toArray, List.set_cons_zero, List.set_cons_succ]
                refine wpHJ_take (v := ?vk2) 2 hFa rfl (by kernel_rfl) (fun _ _ _ h => h.elim) (Or.inl ⟨by rfl, ?yk2⟩) hS ?rk2
                case yk2 => (intro w' hS'; obtain ⟨s0, s1, s2, s3, s4, s5, s6, s7, s8, s9⟩ := hS'; go_simp; try rfl)
                simp only [Act.put, List.getElem_toArray, List.getElem_cons_succ, List.getElem_cons_zero, List.setIfInBounds_toArray, List.set_cons_zero, List.set_cons_succ]
                refine wpHJ_take (v := ?vk3) 3 hFa rfl (by kernel_rfl) (fun _ _ _ h => h.elim) (Or.inl ⟨by rfl, ?yk3⟩) hS ?rk3
                case yk3 => (intro w' hS'; obtain ⟨s0, s1, s2, s3, s4, s5, s6, s7, s8, s9⟩ := hS'; go_simp; try rfl)
                simp only [Act.put, List.getElem_toArray, List.getElem_cons_succ, List.getElem_cons_zero, List.setIfInBounds_toArray, List.set_cons_zero, List.set_cons_succ]
                refine wpHJ_take (v := ?vk4) 4 hFa rfl (by kernel_rfl) (fun _ _ _ h => h.elim) (Or.inl ⟨by rfl, ?yk4⟩) hS ?rk4
                case yk4 => (intro w' hS'; obtain ⟨s0, s1, s2, s3, s4, s5, s6, s7, s8, s9⟩ := hS'; go_simp; try rfl)
                simp only [Act.put, List.getElem_toArray, List.getElem_cons_succ, List.getElem_cons_zero, List.setIfInBounds_toArray, List.set_cons_zero, List.set_cons_succ]
                refine wpHJ_take (v := ?vk5) 5 hFa rfl (by kernel_rfl) (fun _ _ _ h => h.elim) (Or.inl ⟨by rfl, ?yk5⟩) hS ?rk5
                case yk5 => (intro w' hS'; obtain ⟨s0, s1, s2, s3, s4, s5, s6, s7, s8, s9⟩ := hS'; go_simp; try rfl)
                simp only [Act.put, List.getElem_toArray, List.getElem_cons_succ, List.getElem_cons_zero, List.setIfInBounds_toArray, List.set_cons_zero, List.set_cons_succ]
                clear hS
                generalize wi.drew = wj at *
                refine wpHJ_only 6 (by kernel_rfl) rfl ?_
                intro K hK
                go_simp
                (with_reducible refine (callsIn_wide.2 (HRL.out _ HJ0.out _ _ _ _ (strs_in HSL.out (fun i hi => hi) HJ0.out) (strs_in HSC.out (fun i hi => hi) HJ0.out) (by simp) (by simp) (by simp) (by simp))).mono ?_)
                rintro e wj1 ⟨rfl, hb⟩
                have HJ1 := hid (HJ0.out.trans (hb.mono HJ0.out.size))
                clear hb
                refine hK _ _ (.inr (.inr (HSO.out _ HJ1.out))) ?_
                clear hK K
                refine wpHJ_take (v := ?vk7) 7 hFa rfl (by kernel_rfl) (fun _ _ _ h => h.elim) (Or.inl ⟨by rfl, ?yk7⟩) (HSO.out _ HJ1.out) ?rk7
                case yk7 => (intro w' hS'; obtain ⟨s0, s1, s2, s3, s4, s5, s6, s7, s8, s9⟩ := hS'; go_simp; try rfl)
                simp only [Act.put, List.getElem_toArray, List.getElem_cons_succ, List.getElem_cons_zero, List.setIfInBounds_toArray, List.set_cons_zero, List.set_cons_succ]
                refine wpHJ_take (v := ?vk8) 8 hFa rfl (by kernel_rfl) (fun _ _ _ h => h.elim) (Or.inl ⟨by rfl, ?yk8⟩) (HSO.out _ HJ1.out) ?rk8
                case yk8 => (intro w' hS'; obtain ⟨s0, s1, s2, s3, s4, s5, s6, s7, s8, s9⟩ := hS'; go_simp; try rfl)
                simp only [Act.put, List.getElem_toArray, List.getElem_cons_succ, List.getElem_cons_zero, List.setIfInBounds_toArray, List.set_cons_zero, List.set_cons_succ]
                refine wpHJ_take (v := ?vk9) 9 hFa rfl (by kernel_rfl) (fun _ _ _ h => h.elim) (Or.inl ⟨by simp [Region.wanted, yielded], ?yk9⟩) (HSO.out _ HJ1.out) ?rk9
                case yk9 => (intro w' hS'; obtain ⟨s0, s1, s2, s3, s4, s5, s6, s7, s8, s9⟩ := hS'; go_simp; try rfl)
                simp only [Act.put, List.getElem_toArray, List.getElem_cons_succ, List.getElem_cons_zero, List.setIfInBounds_toArray, List.set_cons_zero, List.set_cons_succ]
                refine wpHJ_take (v := ?vk10) 10 hFa rfl (by kernel_rfl) (fun _ _ _ h => h.elim) (Or.inl ⟨by simp [Region.wanted, yielded], ?yk10⟩) (HSO.out _ HJ1.out) ?rk10
                case yk10 => (intro w' hS'; obtain ⟨s0, s1, s2, s3, s4, s5, s6, s7, s8, s9⟩ := hS'; go_simp; try rfl)
                simp only [Act.put, List.getElem_toArray, List.getElem_cons_succ, List.getElem_cons_zero, List.setIfInBounds_toArray, List.set_cons_zero, List.set_cons_succ]
                refine wpHJ_take (v := ?vk11) 11 hFa rfl (by kernel_rfl) (fun _ _ _ h => h.elim) (Or.inl ⟨by simp [Region.wanted, yielded], ?yk11⟩) (HSO.out _ HJ1.out) ?rk11
                case yk11 => (intro w' hS'; obtain ⟨s0, s1, s2, s3, s4, s5, s6, s7, s8, s9⟩ := hS'; go_simp; try rfl)
                simp only [Act.put, List.getElem_toArray, List.getElem_cons_succ, List.getElem_cons_zero, List.setIfInBounds_toArray, List.set_cons_zero, List.set_cons_succ]
                refine wpHJ_take (v := ?vk12) 12 hFa rfl (by kernel_rfl) (fun _ _ _ h => h.elim) (Or.inl ⟨by simp [Region.wanted, yielded], ?yk12⟩) (HSO.out _ HJ1.out) ?rk12
                case yk12 => (intro w' hS'; obtain ⟨s0, s1, s2, s3, s4, s5, s6, s7, s8, s9⟩ := hS'; go_simp; try rfl)
                simp only [Act.put, List.getElem_toArray, List.getElem_cons_succ, List.getElem_cons_zero, List.setIfInBounds_toArray, List.set_cons_zero, List.set_cons_succ]
                refine wpHJ_take (v := ?vk13) 13 hFa rfl (by kernel_rfl) (fun _ _ _ h => h.elim) (Or.inl ⟨by simp [Region.wanted, yielded], ?yk13⟩) (HSO.out _ HJ1.out) ?rk13
                case yk13 => (intro w' hS'; obtain ⟨s0, s1, s2, s3, s4, s5, s6, s7, s8, s9⟩ := hS'; go_simp; try rfl)
                simp only [Act.put, List.getElem_toArray, List.getElem_cons_succ, List.getElem_cons_zero, List.setIfInBounds_toArray, List.set_cons_zero, List.set_cons_succ]
                refine wpHJ_take (v := ?vk14) 14 hFa rfl (by kernel_rfl) (fun _ _ _ h => h.elim) (Or.inl ⟨by simp [Region.wanted, yielded], ?yk14⟩) (HSO.out _ HJ1.out) ?rk14
                case yk14 => (intro w' hS'; obtain ⟨s0, s1, s2, s3, s4, s5, s6, s7, s8, s9⟩ := hS'; go_simp; try rfl)
                simp only [Act.put, List.getElem_toArray, List.getElem_cons_succ, List.getElem_cons_zero, List.setIfInBounds_toArray, List.set_cons_zero, List.set_cons_succ]
                refine wpHJ_only 15 (by kernel_rfl) rfl ?_
                intro K hK
                rw [if_pos (by simp [Region.wanted, yielded])]
                go_simp
                (with_reducible refine (callsIn_wide.2 (HRL.out _ HJ1.out _ _ _ _ Strs.nil (strs_in HSP.out (fun i hi => hi) HJ1.out) (by simp) (by simp) (by simp) (by simp))).mono ?_)
                rintro e wj2 ⟨rfl, hb⟩
                have HJ2 := hid (HJ1.out.trans (hb.mono HJ1.out.size))
                clear hb
                refine hK _ _ (.inr (.inr (HSO.out _ HJ2.out))) ?_
                clear hK K
                refine wpHJ_take (v := ?vk16) 16 hFa rfl (by kernel_rfl) (fun _ _ _ h => h.elim) (Or.inl ⟨by simp [Region.wanted, yielded], ?yk16⟩) (HSO.out _ HJ2.out) ?rk16
                case yk16 => (intro w' hS'; obtain ⟨s0, s1, s2, s3, s4, s5, s6, s7, s8, s9⟩ := hS'; go_simp; try rfl)
                simp only [Act.put, List.getElem_toArray, List.getElem_cons_succ, List.getElem_cons_zero, List.setIfInBounds_toArray, List.set_cons_zero, List.set_cons_succ]
                refine wpHJ_take (v := ?vk17) 17 hFa rfl (by kernel_rfl) (fun _ _ _ h => h.elim) (Or.inl ⟨by rfl, ?yk17⟩) (HSO.out _ HJ2.out) ?rk17
                case yk17 => (intro w' hS'; obtain ⟨s0, s1, s2, s3, s4, s5, s6, s7, s8, s9⟩ := hS'; go_simp; try rfl)
                simp only [Act.put, List.getElem_toArray, List.getElem_cons_succ, List.getElem_cons_zero, List.setIfInBounds_toArray, List.set_cons_zero, List.set_cons_succ]
                refine wpHJ_take (v := ?vk18) 18 hFa rfl (by kernel_rfl) (fun _ _ _ h => h.elim) (Or.inl ⟨by rfl, ?yk18⟩) (HSO.out _ HJ2.out) ?rk18
                case yk18 => (intro w' hS'; obtain ⟨s0, s1, s2, s3, s4, s5, s6, s7, s8, s9⟩ := hS'; go_simp; try rfl)
                simp only [Act.put, List.getElem_toArray, List.getElem_cons_succ, List.getElem_cons_zero, List.setIfInBounds_toArray, List.set_cons_zero, List.set_cons_succ]
                refine wpHJ_take (v := ?vk19) 19 hFa rfl (by kernel_rfl) (fun _ _ _ h => h.elim) (Or.inl ⟨by simp [Region.wanted, yielded], ?yk19⟩) (HSO.out _ HJ2.out) ?rk19
                case yk19 => (intro w' hS'; obtain ⟨s0, s1, s2, s3, s4, s5, s6, s7, s8, s9⟩ := hS'; go_simp; try rfl)
                simp only [Act.put, List.getElem_toArray, List.getElem_cons_succ, List.getElem_cons_zero, List.setIfInBounds_toArray, List.set_cons_zero, List.set_cons_succ]
                refine wpHJ_take (v := ?vk20) 20 hFa rfl (by kernel_rfl) (fun _ _ _ h => h.elim) (Or.inl ⟨by simp [Region.wanted, yielded], ?yk20⟩) (HSO.out _ HJ2.out) ?rk20
                case yk20 => (intro w' hS'; obtain ⟨s0, s1, s2, s3, s4, s5, s6, s7, s8, s9⟩ := hS'; go_simp; try rfl)
                simp only [Act.put, List.getElem_toArray, List.getElem_cons_succ, List.getElem_cons_zero, List.setIfInBounds_toArray, List.set_cons_zero, List.set_cons_succ]
                refine wpHJ_take (v := ?vk21) 21 hFa rfl (by kernel_rfl) (fun _ _ _ h => h.elim) (Or.inl ⟨by simp [Region.wanted, yielded], ?yk21⟩) (HSO.out _ HJ2.out) ?rk21
                case yk21 => (intro w' hS'; obtain ⟨s0, s1, s2, s3, s4, s5, s6, s7, s8, s9⟩ := hS'; go_simp; try rfl)
                simp only [Act.put, List.getElem_toArray, List.getElem_cons_succ, List.getElem_cons_zero, List.setIfInBounds_toArray, List.set_cons_zero, List.set_cons_succ]
                refine wpHJ_take (v := ?vk22) 22 hFa rfl (by kernel_rfl) (fun _ _ _ h => h.elim) (Or.inl ⟨by simp [Region.wanted, yielded], ?yk22⟩) (HSO.out _ HJ2.out) ?rk22
                case yk22 => (intro w' hS'; obtain ⟨s0, s1, s2, s3, s4, s5, s6, s7, s8, s9⟩ := hS'; go_simp; try rfl)
                simp only [Act.put, List.getElem_toArray, List.getElem_cons_succ, List.getElem_cons_zero, List.setIfInBounds_toArray, List.set_cons_zero, List.set_cons_succ]
                refine wpHJ_take (v := ?vk23) 23 hFa rfl (by kernel_rfl) (fun _ _ _ h => h.elim) (Or.inl ⟨by simp [Region.wanted, yielded], ?yk23⟩) (HSO.out _ HJ2.out) ?rk23
                case yk23 => (intro w' hS'; obtain ⟨s0, s1, s2, s3, s4, s5, s6, s7, s8, s9⟩ := hS'; go_simp; try rfl)
                simp only [Act.put, List.getElem_toArray, List.getElem_cons_succ, List.getElem_cons_zero, List.setIfInBounds_toArray, List.set_cons_zero, List.set_cons_succ]
                refine wpHJ_only 24 (by kernel_rfl) rfl ?_
                intro K hK
                rw [if_pos (by simp [Region.wanted, yielded])]
                go_simp
                (with_reducible refine (callsIn_wide.2 (HRL.out _ HJ2.out _ _ _ _ (strs_in HSC.out (fun i hi => hi) HJ2.out) Strs.nil (by simp) (by simp) (by simp) (by simp))).mono ?_)
                rintro e wj3 ⟨rfl, hb⟩
                have HJ3 := hid (HJ2.out.trans (hb.mono HJ2.out.size))
                clear hb
                refine hK _ _ (.inr (.inr (HSO.out _ HJ3.out))) ?_
                clear hK K
                refine wpHJ_take (v := ?vk25) 25 hFa rfl (by kernel_rfl) (fun _ _ _ h => h.elim) (Or.inl ⟨by simp [Region.wanted, yielded], ?yk25⟩) (HSO.out _ HJ3.out) ?rk25
                case yk25 => (intro w' hS'; obtain ⟨s0, s1, s2, s3, s4, s5, s6, s7, s8, s9⟩ := hS'; go_simp; try rfl)
                simp only [Act.put, List.getElem_toArray, List.getElem_cons_succ, List.getElem_cons_zero, List.setIfInBounds_toArray, List.set_cons_zero, List.set_cons_succ]
                refine wpHJ_take (v := ?vk26) 26 hFa rfl (by kernel_rfl) (fun _ _ _ h => h.elim) (Or.inl ⟨by rfl, ?yk26⟩) (HSO.out _ HJ3.out) ?rk26
                case yk26 => (intro w' hS'; obtain ⟨s0, s1, s2, s3, s4, s5, s6, s7, s8, s9⟩ := hS'; go_simp; try rfl)
                simp only [Act.put, List.getElem_toArray, List.getElem_cons_succ, List.getElem_cons_zero, List.setIfInBounds_toArray, List.set_cons_zero, List.set_cons_succ]
                refine wpHJ_take (v := ?vk27) 27 hFa rfl (by kernel_rfl) (fun _ _ _ h => h.elim) (Or.inl ⟨by rfl, ?yk27⟩) (HSO.out _ HJ3.out) ?rk27
                case yk27 => (intro w' hS'; obtain ⟨s0, s1, s2, s3, s4, s5, s6, s7, s8, s9⟩ := hS'; go_simp; try rfl)
                simp only [Act.put, List.getElem_toArray, List.getElem_cons_succ, List.getElem_cons_zero, List.setIfInBounds_toArray, List.set_cons_zero, List.set_cons_succ]
                refine wpHJ_take (v := ?vk28) 28 hFa rfl (by kernel_rfl) (fun _ _ _ h => h.elim) (Or.inl ⟨by simp [Region.wanted, yielded], ?yk28⟩) (HSO.out _ HJ3.out) ?rk28
                case yk28 => (intro w' hS'; obtain ⟨s0, s1, s2, s3, s4, s5, s6, s7, s8, s9⟩ := hS'; go_simp; try rfl)
                simp only [Act.put, List.getElem_toArray, List.getElem_cons_succ, List.getElem_cons_zero, List.setIfInBounds_toArray, List.set_cons_zero, List.set_cons_succ]
                refine wpHJ_take (v := ?vk29) 29 hFa rfl (by kernel_rfl) (fun _ _ _ h => h.elim) (Or.inl ⟨by simp [Region.wanted, yielded], ?yk29⟩) (HSO.out _ HJ3.out) ?rk29
                case yk29 => (intro w' hS'; obtain ⟨s0, s1, s2, s3, s4, s5, s6, s7, s8, s9⟩ := hS'; go_simp; try rfl)
                simp only [Act.put, List.getElem_toArray, List.getElem_cons_succ, List.getElem_cons_zero, List.setIfInBounds_toArray, List.set_cons_zero, List.set_cons_succ]
                refine wpHJ_take (v := ?vk30) 30 hFa rfl (by kernel_rfl) (fun _ _ _ h => h.elim) (Or.inl ⟨by simp [Region.wanted, yielded], ?yk30⟩) (HSO.out _ HJ3.out) ?rk30
                case yk30 => (intro w' hS'; obtain ⟨s0, s1, s2, s3, s4, s5, s6, s7, s8, s9⟩ := hS'; go_simp; try rfl)
                simp only [Act.put, List.getElem_toArray, List.getElem_cons_succ, List.getElem_cons_zero, List.setIfInBounds_toArray, List.set_cons_zero, List.set_cons_succ]
                refine wpHJ_only 31 (by kernel_rfl) rfl ?_
                intro K hK
                rw [if_pos (by simp [Region.wanted, yielded])]
                go_simp
                (with_reducible refine (callsIn_wide.2 (reportWords_any kd i _ (by omega) (by omega) (HTC.out.below HJ3.out))).mono ?_)
                rintro e wj4 ⟨rfl, hb⟩
                have HJ4 := hid (HJ3.out.trans (hb.mono HJ3.out.size))
                clear hb
                refine hK _ _ (.inr (.inr (HSO.out _ HJ4.out))) ?_
                clear hK K
                refine wpHJ_take (v := ?vk32) 32 hFa rfl (by kernel_rfl) (fun _ _ _ h => h.elim) (Or.inl ⟨by simp [Region.wanted, yielded], ?yk32⟩) (HSO.out _ HJ4.out) ?rk32
                case yk32 => (intro w' hS'; obtain ⟨s0, s1, s2, s3, s4, s5, s6, s7, s8, s9⟩ := hS'; go_simp; try rfl)
                simp only [Act.put, List.getElem_toArray, List.getElem_cons_succ, List.getElem_cons_zero, List.setIfInBounds_toArray, List.set_cons_zero, List.set_cons_succ]
                refine wpHJ_only 33 (by kernel_rfl) rfl ?_
                intro K hK
                go_simp
                refine hK _ _ (.inr (.inr (HSO.out _ HJ4.out))) ?_
                clear hK K
                refine wpHJ_done (by kernel_rfl) ?_ _
                simp only [onlyN, Exit.then]
                clear hFa
                go_wp2_with fail
                go_roundw
                case rel => exact ⟨k + 1, by omega, by go_num, HJ4.out⟩
                case measure => simp [intOf]; omega

              · obtain rfl : k = 7 := by omega
                have t3 : decide (((7 : Nat) : Int) < 7) = false := by decide
                go_wp2_with fail
                go_roundw
                case rel => exact ⟨i + 1, by omega, by go_num, HBC3.out.trans (HBI.out.mono HBC3.out.size)⟩
                case measure => simp [intOf]; omega
        · obtain rfl : i = 12 := by omega
          have t2 : decide (((12 : Nat) : Int) < 12) = false := by decide
          go_wp2_with fail
          go_roundw
          case rel => exact ⟨kd + 1, by omega, by go_num, HBL.out⟩
          case measure => simp [intOf]; omega
    · obtain rfl : kd = 6 := by omega
      have t1 : decide (((6 : Nat) : Int) < 6) = false := by decide
      have HTK := hid (HT3.out.below HBK.out)
      go_wp2_with (first
        | (go_at_call 3; (with_reducible refine (reportWords_int 255 255 _ (by omega) (by omega) HTK.out).mono ?_); rintro e wa ⟨rfl, hb⟩; have HBA := hid (HBK.out.trans (hb.mono HBK.out.size)); clear hb)
        | (go_at_call 11; (with_reducible refine (awake_any _ (HT3.out.below HBA.out)).mono ?_); rintro e wb ⟨rfl, hb⟩; have HBB := hid (HBA.out.trans (hb.mono HBA.out.size)); clear hb))
      go_ret
      exact ⟨rfl, HB3.out.trans (HBB.out.mono HB3.out.size)⟩

end Go.Proofs.YtehjfmbnebeioaaDoor
