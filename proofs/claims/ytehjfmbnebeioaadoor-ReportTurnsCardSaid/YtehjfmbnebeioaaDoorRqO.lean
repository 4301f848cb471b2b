/-
  A Verdict that comes in by value, opened.
-/
import Derived.Test.YtehjfmbnebeioaaDoorRpN
import Derived.Test.YtehjfmbnebeioaaDoorOpB
import Derived.Deep.Slices
namespace Go.Proofs.YtehjfmbnebeioaaDoor
set_option linter.unusedSimpArgs false
set_option linter.unusedVariables false
open Go.RowKit Go.Shelf
attribute [local go_sem] Oper.semAt_some
open Go.ChangeShapes Go.WideShapes Go.ChangeAt Go.Joins
section
variable {H : Type} {enc : TypeId × Value → H} {W : World}
theorem bytes_u64 : Tryd.prog.bytesOf 37 = 8 := by kernel_rfl
theorem u64s_open {n : Nat} {v : Value} {y : DataW H × List MemPlace} (h : DataW.trod enc Tryd.prog W 0 (fun _ => true) true n 36 [v] = some y) (hs : ∀ m ∈ y.1.weights Tryd.prog 36, m ≤ reachBytes) :
    ∃ xs : List Nat, Nums (· < W.heap.size) W v xs ∧ (∀ x ∈ xs, x ≤ 18446744073709551615) ∧ xs.length ≤ 17592186044415 := by
  rcases Go.ChangeShapes.open_ints Tryd.underlying36 Tryd.underlying37 (by kernel_rfl) h with ⟨hcs, _⟩ | ⟨a, len, cap, zs, hcs, _, hl, hm, hz, hx, hcell, hwz⟩
  · simp at hcs
    subst hcs
    exact ⟨[], Nums.nil, by simp, by simp⟩
  · simp at hcs
    subst hcs
    simp only [if_true] at hz
    subst hx
    have hlen : (zs.take len).length = len := by rw [List.length_take]; omega
    have hr : cap * 8 ≤ 140737488351232 := by
      have := hs (((lits (H := H) .u64 (zs.take len)).length + (lits (H := H) .u64 (zs.drop len)).length) * Tryd.prog.bytesOf 37) (by simp [DataW.weights, Tryd.underlying36])
      rw [bytes_u64] at this
      simp only [lits, List.length_map, List.length_take, List.length_drop, reachBytes] at this
      omega
    have hml : ((zs.take len).map Int.toNat).length = len := by rw [List.length_map, hlen]
    refine ⟨(zs.take len).map Int.toNat, ⟨some a, cap, by rw [List.length_map, hml], by rw [List.length_map, hml]; exact hl, hm, by rw [List.length_map, hml]; omega, ?_⟩, fun x hx => ?_, by rw [hml]; omega⟩
    · by_cases h0 : len = 0
      · subst h0; exact .inl rfl
      · obtain ⟨b, off, spot⟩ := a
        have hspot : spot = none := by simpa [Addr.add] using World.cell?_spot (hcell 0 (by omega))
        subst hspot
        have hc0 := hcell 0 (by omega)
        refine .inr ⟨b, off, rfl, cell_lt (by simpa [Addr.add] using hc0), fun j hj => ?_⟩
        have hj2 : j < len := by rw [List.length_map, hml] at hj; exact hj
        have hjz : j < zs.length := by omega
        rw [show (⟨b, off + j, none⟩ : Addr) = (⟨b, off, none⟩ : Addr).add j from by simp [Addr.add], hcell j (by omega)]
        have hb := wf_u64 (hwz zs[j] (List.getElem_mem hjz))
        have e : (zs.getD j 0) = zs[j] := by simp [List.getD, hjz]
        rw [e]
        simp only [nV, List.getElem_map, List.getElem_take]
        congr 2
        omega
    · obtain ⟨z, hz1, rfl⟩ := List.mem_map.1 hx
      have := wf_u64 (hwz z (List.mem_of_mem_take hz1))
      omega
theorem bytes_nl : Tryd.prog.bytesOf 36 = 24 := by kernel_rfl
theorem weightsAll_mem {P : Program} {e : TypeId} : ∀ {l : List (DataW H)} {d : DataW H}, d ∈ l → ∀ m ∈ d.weights P e, m ∈ DataW.weightsAll P e l
  | d' :: l, d, h, m, hm => by
    rw [DataW.weightsAll, List.mem_append]
    rcases List.mem_cons.1 h with rfl | h
    · exact .inl hm
    · exact .inr (weightsAll_mem h m hm)
theorem nll_open {n : Nat} {v : Value} {y : DataW H × List MemPlace} (h : DataW.trod enc Tryd.prog W 0 (fun _ => true) true n 29 [v] = some y) (hs : ∀ m ∈ y.1.weights Tryd.prog 29, m ≤ reachBytes) :
    ∃ (ls : List (List Nat)) (p : Option Addr) (c : Nat), v = .slice p ls.length c ∧ NLL (· < W.heap.size) W v ls ∧ (∀ l ∈ ls, ∀ x ∈ l, x ≤ 18446744073709551615) ∧ ∀ l ∈ ls, l.length ≤ 17592186044415 := by
  rcases Deep.open_slice1 Tryd.underlying29 (by kernel_rfl) h with ⟨hcs, _⟩ | ⟨a, len, cap, m, n', V, D, Pl, hcs, _, hl, hm, hmc, hx, hV⟩
  · simp at hcs
    subst hcs
    exact ⟨[], none, 0, rfl, NLL.nil, by simp, by simp⟩
  · simp at hcs
    subst hcs
    simp only [if_true] at hmc
    obtain rfl : cap = m := hmc.symm
    subst hx
    have hr : cap * 24 ≤ 140737488351232 := by
      have := hs ((((List.range len).map D).length + ((List.range (cap - len)).map fun j => D (len + j)).length) * Tryd.prog.bytesOf 36) (by simp [DataW.weights, Tryd.underlying29])
      rw [bytes_nl] at this
      simp only [List.length_map, List.length_range, reachBytes] at this
      omega
    have hrow : ∀ i, i < len → ∃ xs : List Nat, Nums (· < W.heap.size) W (V i) xs ∧ (∀ x ∈ xs, x ≤ 18446744073709551615) ∧ xs.length ≤ 17592186044415 := fun i hi =>
      u64s_open (hV i (by omega)).2 (fun k hk => hs k (by
        simp only [DataW.weights, Tryd.underlying29, List.mem_cons, List.mem_append]
        exact .inr (.inl (weightsAll_mem (List.mem_map.2 ⟨i, List.mem_range.2 hi, rfl⟩) k hk))))
    have hch : ∃ f : Nat → List Nat, ∀ i, i < len → Nums (· < W.heap.size) W (V i) (f i) ∧ (∀ x ∈ f i, x ≤ 18446744073709551615) ∧ (f i).length ≤ 17592186044415 :=
      ⟨fun i => if h : i < len then (hrow i h).choose else [], fun i hi => by dsimp only; rw [dif_pos hi]; exact (hrow i hi).choose_spec⟩
    obtain ⟨f, hf⟩ := hch
    refine ⟨(List.range len).map f, some a, cap, by simp, ⟨(List.range len).map V, ⟨some a, cap, by simp, by simpa using hl, hm, by simp; omega, ?_⟩, by simp, fun i hi hi' => ?_⟩, fun l hl' => ?_, fun l hl' => ?_⟩
    · by_cases h0 : len = 0
      · subst h0; exact .inl rfl
      · obtain ⟨b, off, spot⟩ := a
        have hspot : spot = none := by simpa [Addr.add] using World.cell?_spot (hV 0 (by omega)).1
        subst hspot
        have hc0 := (hV 0 (by omega)).1
        refine .inr ⟨b, off, rfl, cell_lt (by simpa [Addr.add] using hc0), fun j hj => ?_⟩
        have hj2 : j < len := by simpa using hj
        rw [show (⟨b, off + j, none⟩ : Addr) = (⟨b, off, none⟩ : Addr).add j from by simp [Addr.add], (hV j (by omega)).1]
        simp
    · have hi2 : i < len := by simpa using hi
      simp only [List.getElem_map, List.getElem_range]
      exact (hf i hi2).1
    · obtain ⟨i, hi, rfl⟩ := List.mem_map.1 hl'
      exact (hf i (List.mem_range.1 hi)).2.1
    · obtain ⟨i, hi, rfl⟩ := List.mem_map.1 hl'
      exact (hf i (List.mem_range.1 hi)).2.2
theorem array10 {α : Type} {cs : Array α} (h : cs.size = 10) : ∃ c0 c1 c2 c3 c4 c5 c6 c7 c8 c9, cs = #[c0, c1, c2, c3, c4, c5, c6, c7, c8, c9] := by
  obtain ⟨l⟩ := cs
  match l, h with
  | [c0, c1, c2, c3, c4, c5, c6, c7, c8, c9], _ => exact ⟨c0, c1, c2, c3, c4, c5, c6, c7, c8, c9, rfl⟩
theorem trod_struct6 {P : Program} {t : TypeId} {f0 f1 f2 f3 f4 f5 : Field} {fuel : Nat} {cs : List Value} {x : DataW H × List MemPlace} (ht : P.underlying t = some (.struct #[f0, f1, f2, f3, f4, f5])) (h : DataW.trod enc P W 0 (fun _ => true) true fuel t cs = some x) :
    ∃ y0 y1 y2 y3 y4 y5 n, x.1 = .agg [y0.1, y1.1, y2.1, y3.1, y4.1, y5.1] ∧ DataW.trod enc P W 0 (fun _ => true) true n f0.type ((cs.drop f0.offset).take (P.cellsOf f0.type)) = some y0 ∧
      DataW.trod enc P W 0 (fun _ => true) true n f1.type ((cs.drop f1.offset).take (P.cellsOf f1.type)) = some y1 ∧ DataW.trod enc P W 0 (fun _ => true) true n f2.type ((cs.drop f2.offset).take (P.cellsOf f2.type)) = some y2 ∧
      DataW.trod enc P W 0 (fun _ => true) true n f3.type ((cs.drop f3.offset).take (P.cellsOf f3.type)) = some y3 ∧ DataW.trod enc P W 0 (fun _ => true) true n f4.type ((cs.drop f4.offset).take (P.cellsOf f4.type)) = some y4 ∧
      DataW.trod enc P W 0 (fun _ => true) true n f5.type ((cs.drop f5.offset).take (P.cellsOf f5.type)) = some y5 := by
  obtain ⟨xs, n, _, rfl, hl, hlen, hf⟩ := DataW.trod_struct ht h
  match xs, hlen with
  | [y0, y1, y2, y3, y4, y5], _ => exact ⟨y0, y1, y2, y3, y4, y5, n, by simp, by simpa using hf 0 f0 rfl, by simpa using hf 1 f1 rfl, by simpa using hf 2 f2 rfl, by simpa using hf 3 f3 rfl, by simpa using hf 4 f4 rfl, by simpa using hf 5 f5 rfl⟩
theorem cells_vd : Tryd.prog.cellsOf 35 = 10 := by kernel_rfl
theorem cells_wit : Tryd.prog.cellsOf 31 = 4 := by kernel_rfl
theorem cells_pos : Tryd.prog.cellsOf 33 = 2 := by kernel_rfl
theorem cells_i : Tryd.prog.cellsOf 3 = 1 := by kernel_rfl
theorem cells_b : Tryd.prog.cellsOf 4 = 1 := by kernel_rfl
theorem cells_8 : Tryd.prog.cellsOf 5 = 1 := by kernel_rfl
theorem cells_l : Tryd.prog.cellsOf 29 = 1 := by kernel_rfl
theorem cells_x : Tryd.prog.cellsOf 22 = 1 := by kernel_rfl
theorem vd_open {r : Reach} {b0 : Nat} {v : Value} {d : DataW H} {p : List MemPlace} (hv : Value.okWide Tryd.prog W r b0 35 v) (h : DataW.Trod enc Tryd.prog W 0 (fun _ => true) true 35 v d p) (hs : ∀ m ∈ d.weights Tryd.prog 35, m ≤ reachBytes) :
    ∃ (x : Vd) (pA : Option Addr) (cA : Nat) (pB : Option Addr) (cB : Nat), v = .agg #[.int .u8 (x.kind : Int), .int .u8 (x.reason : Int), .int .i64 x.level, .slice pA x.A.length cA, .slice pB x.B.length cB, .bool x.imp, .bool x.pol, .int .i64 x.line, .int .i64 x.col, .int .i64 x.err] ∧ VdOk x ∧ NLL (fun i => i < W.heap.size) W (.slice pA x.A.length cA) x.A ∧ NLL (fun i => i < W.heap.size) W (.slice pB x.B.length cB) x.B ∧ (∀ y ∈ x.A, y.length ≤ 17592186044415) ∧ ∀ y ∈ x.B, y.length ≤ 17592186044415 := by
  obtain ⟨cs, rfl, hsz⟩ := okWide_struct Tryd.underlying35 hv
  obtain ⟨c0, c1, c2, c3, c4, c5, c6, c7, c8, c9, rfl⟩ := array10 (hsz.trans cells_vd)
  obtain ⟨fuel, hf⟩ := h
  obtain ⟨y0, y1, y2, y3, y4, y5, n, hx, h0, h1, h2, h3, h4, h5⟩ := trod_struct6 Tryd.underlying35 hf
  simp only at hx
  subst hx
  simp only [Value.cells, cells_8, cells_wit, cells_b, cells_pos, cells_x, List.drop_zero, List.drop_succ_cons, List.take_succ_cons, List.take_zero] at h0 h1 h2 h3 h4 h5
  obtain ⟨w0, w1, w2, w3, n2, hx2, _, k0, k1, k2, k3⟩ := trod_struct4 Tryd.underlying31 h2
  subst hx2
  simp only [cells_i, cells_l, cells_b, List.drop_zero, List.drop_succ_cons, List.take_succ_cons, List.take_zero] at k0 k1 k2 k3
  obtain ⟨z0, z1, n3, hx3, _, l0, l1⟩ := trod_struct2 Tryd.underlying33 h4
  subst hx3
  simp only [cells_i, List.drop_zero, List.drop_succ_cons, List.take_succ_cons, List.take_zero] at l0 l1
  obtain ⟨i0, e0, _, f0⟩ := DataW.trod_int Tryd.underlying5 h0
  obtain ⟨i1, e1, _, f1⟩ := DataW.trod_int Tryd.underlying5 h1
  obtain ⟨i2, e2, _, f2⟩ := DataW.trod_int Tryd.underlying3 k0
  obtain ⟨bi, e5, _⟩ := DataW.trod_bool Tryd.underlying4 k3
  obtain ⟨bp, e6, _⟩ := DataW.trod_bool Tryd.underlying4 h3
  obtain ⟨i7, e7, _, f7⟩ := DataW.trod_int Tryd.underlying3 l0
  obtain ⟨i8, e8, _, f8⟩ := DataW.trod_int Tryd.underlying3 l1
  obtain ⟨i9, e9, _, f9⟩ := DataW.trod_int Tryd.underlying22 h5
  have hA : ∀ m ∈ w1.1.weights Tryd.prog 29, m ≤ reachBytes := fun m hm => hs m (by simp [DataW.weights, Tryd.underlying35, Tryd.underlying31, DataW.weightsEach, hm])
  have hB : ∀ m ∈ w2.1.weights Tryd.prog 29, m ≤ reachBytes := fun m hm => hs m (by simp [DataW.weights, Tryd.underlying35, Tryd.underlying31, DataW.weightsEach, hm])
  obtain ⟨A, pA, cA, eA, nA, bA, rA⟩ := nll_open k1 hA
  obtain ⟨B, pB, cB, eB, nB, bB, rB⟩ := nll_open k2 hB
  simp only [List.cons.injEq, and_true] at e0 e1 e2 e5 e6 e7 e8 e9
  subst e0 e1 e2 e5 e6 e7 e8 e9 eA eB
  have g0 := wf_u8 f0
  have g1 := wf_u8 f1
  have q0 : ((i0.toNat : Nat) : Int) = i0 := Int.toNat_of_nonneg g0.1
  have q1 : ((i1.toNat : Nat) : Int) = i1 := Int.toNat_of_nonneg g1.1
  refine ⟨⟨i0.toNat, i1.toNat, i2, A, B, bi, bp, i7, i8, i9⟩, pA, cA, pB, cB, ?_, ⟨by dsimp only; omega, by dsimp only; omega, wf_bounds f2, wf_bounds f7, wf_bounds f8, wf_bounds f9, bA, bB⟩, nA, nB, rA, rB⟩
  dsimp only
  rw [q0, q1]
end

end Go.Proofs.YtehjfmbnebeioaaDoor
