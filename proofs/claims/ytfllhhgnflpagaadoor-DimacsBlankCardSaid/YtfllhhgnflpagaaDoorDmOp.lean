/-
  A formula that comes in by value, opened.
-/
import Derived.Test.YtfllhhgnflpagaaDoorOpen
import Derived.Test.YtfllhhgnflpagaaDoorOpB
import Derived.Test.YtfllhhgnflpagaaDoorDmFi
import Derived.Deep.Slices
namespace Go.Proofs.YtfllhhgnflpagaaDoor
set_option linter.unusedSimpArgs false
set_option linter.unusedVariables false
open Go.ChangeShapes Go.WideShapes Go.ChangeAt Go.RowKit Go.Joins
theorem LL.nil {R : Nat → Prop} {w : World} : LL R w (.slice none 0 0) [] := ⟨[], Sl.nil, rfl, fun i h => absurd h (by simp)⟩
section
variable {H : Type} {enc : TypeId × Value → H} {W : World}
theorem bytes_il : Tryd.prog.bytesOf 34 = 24 := by kernel_rfl
theorem weightsAll_mem {P : Program} {e : TypeId} : ∀ {l : List (DataW H)} {d : DataW H}, d ∈ l → ∀ m ∈ d.weights P e, m ∈ DataW.weightsAll P e l
  | d' :: l, d, h, m, hm => by
    rw [DataW.weightsAll, List.mem_append]
    rcases List.mem_cons.1 h with rfl | h
    · exact .inl hm
    · exact .inr (weightsAll_mem h m hm)
set_option maxRecDepth 100000 in
theorem ll_open {n : Nat} {v : Value} {y : DataW H × List MemPlace} (h : DataW.trod enc Tryd.prog W 0 (fun _ => true) true n 22 [v] = some y) (hs : ∀ m ∈ y.1.weights Tryd.prog 22, m ≤ reachBytes) :
    ∃ (ls : List (List Int)) (p : Option Addr) (c : Nat), v = .slice p ls.length c ∧ LL (· < W.heap.size) W v ls ∧ (∀ l ∈ ls, ∀ x ∈ l, -9223372036854775808 ≤ x ∧ x ≤ 9223372036854775807) := by
  rcases Deep.open_slice1 Tryd.underlying22 (by kernel_rfl) h with ⟨hcs, _⟩ | ⟨a, len, cap, m, n', V, D, Pl, hcs, _, hl, hm, hmc, hx, hV⟩
  · simp at hcs
    subst hcs
    exact ⟨[], none, 0, rfl, LL.nil, by simp⟩
  · simp at hcs
    subst hcs
    simp only [if_true] at hmc
    obtain rfl : cap = m := hmc.symm
    subst hx
    have hr : cap * 24 ≤ 140737488351232 := by
      have := hs ((((List.range len).map D).length + ((List.range (cap - len)).map fun j => D (len + j)).length) * Tryd.prog.bytesOf 34) (by simp [DataW.weights, Tryd.underlying22])
      rw [bytes_il] at this
      simp only [List.length_map, List.length_range, reachBytes] at this
      omega
    have hrow : ∀ i, i < len → ∃ xs : List Int, Ints (· < W.heap.size) W (V i) xs ∧ (∀ x ∈ xs, -9223372036854775808 ≤ x ∧ x ≤ 9223372036854775807) := fun i hi =>
      ints_open (hV i (by omega)).2 (fun k hk => hs k (by
        simp only [DataW.weights, Tryd.underlying22, List.mem_cons, List.mem_append]
        exact .inr (.inl (weightsAll_mem (List.mem_map.2 ⟨i, List.mem_range.2 hi, rfl⟩) k hk))))
    have hch : ∃ f : Nat → List Int, ∀ i, i < len → Ints (· < W.heap.size) W (V i) (f i) ∧ (∀ x ∈ f i, -9223372036854775808 ≤ x ∧ x ≤ 9223372036854775807) :=
      ⟨fun i => if h : i < len then (hrow i h).choose else [], fun i hi => by dsimp only; rw [dif_pos hi]; exact (hrow i hi).choose_spec⟩
    obtain ⟨f, hf⟩ := hch
    refine ⟨(List.range len).map f, some a, cap, by simp, ⟨(List.range len).map V, ⟨some a, cap, by simp, by simpa using hl, hm, by simp; omega, ?_⟩, by simp, fun i hi hi' => ?_⟩, fun l hl' => ?_⟩
    · by_cases h0 : len = 0
      · subst h0; exact .inl rfl
      · obtain ⟨b, off, spot⟩ := a
        have hspot : spot = none := by simpa [Addr.add] using World.cell?_spot (hV 0 (by omega)).1
        subst hspot
        have hc0 := (hV 0 (by omega)).1
        refine .inr ⟨b, off, rfl, cell_lt (by simpa [Addr.add] using hc0), fun j hj => ?_⟩
        have hj2 : j < len := by simpa using hj
        rw [show (⟨b, off + j, none⟩ : Addr) = (⟨b, off, none⟩ : Addr).add j from by simp [Addr.add], (hV j (by omega)).1]
        simp
    · have hi2 : i < len := by simpa using hi
      simp only [List.getElem_map, List.getElem_range]
      exact (hf i hi2).1
    · obtain ⟨i, hi, rfl⟩ := List.mem_map.1 hl'
      exact (hf i (List.mem_range.1 hi)).2

theorem cells_fm : Tryd.prog.cellsOf 24 = 2 := by kernel_rfl
set_option maxRecDepth 100000 in
theorem fm_open {r : Reach} {b0 : Nat} {v : Value} {d : DataW H} {p : List MemPlace} (hv : Value.okWide Tryd.prog W r b0 24 v) (h : DataW.Trod enc Tryd.prog W 0 (fun _ => true) true 24 v d p) (hs : ∀ m ∈ d.weights Tryd.prog 24, m ≤ reachBytes) :
    ∃ (n : Int) (p : Option Addr) (len cap : Nat) (ls : List (List Int)), v = .agg #[.int .i64 n, .slice p len cap] ∧ (-9223372036854775808 ≤ n ∧ n ≤ 9223372036854775807) ∧ LL (· < W.heap.size) W (.slice p len cap) ls ∧ ∀ c ∈ ls, ∀ a ∈ c, -9223372036854775808 ≤ a ∧ a ≤ 9223372036854775807 := by
  obtain ⟨c0, c1, y0, y1, n, rfl, rfl, rfl, h0, h1⟩ := open_agg2 Tryd.underlying24 (by kernel_rfl) cells_fm hv h
  obtain ⟨i0, e0, _, f0⟩ := DataW.trod_int Tryd.underlying3 h0
  have hw1 : ∀ m ∈ y1.1.weights Tryd.prog 22, m ≤ reachBytes := fun m hm => hs m (by simp [DataW.weights, Tryd.underlying24, DataW.weightsEach, hm])
  obtain ⟨ls, p, c, e1, hl, hb⟩ := ll_open h1 hw1
  simp only [List.cons.injEq, and_true] at e0
  subst e0 e1
  exact ⟨i0, p, _, c, ls, rfl, wf_bounds f0, hl, hb⟩
theorem bytes_i8 : Tryd.prog.bytesOf 46 = 1 := by kernel_rfl
theorem bytes_i8l : Tryd.prog.bytesOf 64 = 24 := by kernel_rfl
theorem wf_i8 {x : Int} (h : (Lit.int .i8 x).wf = true) : -128 ≤ x ∧ x ≤ 127 := by
  have h1 : IntKind.i8.min = -128 := by decide
  have h2 : IntKind.i8.max = 127 := by decide
  simp [Lit.wf] at h
  omega
theorem L8.nil {R : Nat → Prop} {w : World} : L8 R w (.slice none 0 0) [] := ⟨[], Sl.nil, rfl, fun i h => absurd h (by simp)⟩
theorem i8s_open {n : Nat} {v : Value} {y : DataW H × List MemPlace} (h : DataW.trod enc Tryd.prog W 0 (fun _ => true) true n 64 [v] = some y) (hs : ∀ m ∈ y.1.weights Tryd.prog 64, m ≤ reachBytes) :
    ∃ xs, I8s (· < W.heap.size) W v xs ∧ ∀ x ∈ xs, -128 ≤ x ∧ x ≤ 127 := by
  rcases Go.ChangeShapes.open_ints Tryd.underlying64 Tryd.underlying46 (by kernel_rfl) h with ⟨hcs, _⟩ | ⟨a, len, cap, zs, hcs, _, hl, hm, hz, hx, hcell, hwz⟩
  · simp at hcs
    subst hcs
    exact ⟨[], Sl.nil, by simp⟩
  · simp at hcs
    subst hcs
    simp only [if_true] at hz
    subst hx
    have hlen : (zs.take len).length = len := by rw [List.length_take]; omega
    have hr : cap * 1 ≤ 140737488351232 := by
      have := hs (((lits (H := H) .i8 (zs.take len)).length + (lits (H := H) .i8 (zs.drop len)).length) * Tryd.prog.bytesOf 46) (by simp [DataW.weights, Tryd.underlying64])
      rw [bytes_i8] at this
      simp only [lits, List.length_map, List.length_take, List.length_drop, reachBytes] at this
      omega
    refine ⟨zs.take len, ⟨some a, cap, by rw [List.length_map, hlen], by rw [List.length_map, hlen]; exact hl, hm, by rw [List.length_map, hlen]; omega, ?_⟩, fun x hx => ?_⟩
    · by_cases h0 : len = 0
      · subst h0; exact .inl rfl
      · obtain ⟨b, off, spot⟩ := a
        have hspot : spot = none := by simpa [Addr.add] using World.cell?_spot (hcell 0 (by omega))
        subst hspot
        have hc0 := hcell 0 (by omega)
        refine .inr ⟨b, off, rfl, cell_lt (by simpa [Addr.add] using hc0), fun j hj => ?_⟩
        have hj2 : j < len := by rw [List.length_map, hlen] at hj; exact hj
        rw [show (⟨b, off + j, none⟩ : Addr) = (⟨b, off, none⟩ : Addr).add j from by simp [Addr.add], hcell j (by omega)]
        simp only [List.getElem_map, List.getElem_take]
        rw [List.getD_eq_getElem?_getD, List.getElem?_eq_getElem (by omega)]
        rfl
    · have := hwz x (List.mem_of_mem_take hx)
      exact wf_i8 this

set_option maxRecDepth 100000 in
theorem l8_open {n : Nat} {v : Value} {y : DataW H × List MemPlace} (h : DataW.trod enc Tryd.prog W 0 (fun _ => true) true n 38 [v] = some y) (hs : ∀ m ∈ y.1.weights Tryd.prog 38, m ≤ reachBytes) :
    ∃ (ls : List (List Int)) (p : Option Addr) (c : Nat), v = .slice p ls.length c ∧ L8 (· < W.heap.size) W v ls ∧ (∀ l ∈ ls, ∀ x ∈ l, -128 ≤ x ∧ x ≤ 127) := by
  rcases Deep.open_slice1 Tryd.underlying38 (by kernel_rfl) h with ⟨hcs, _⟩ | ⟨a, len, cap, m, n', V, D, Pl, hcs, _, hl, hm, hmc, hx, hV⟩
  · simp at hcs
    subst hcs
    exact ⟨[], none, 0, rfl, L8.nil, by simp⟩
  · simp at hcs
    subst hcs
    simp only [if_true] at hmc
    obtain rfl : cap = m := hmc.symm
    subst hx
    have hr : cap * 24 ≤ 140737488351232 := by
      have := hs ((((List.range len).map D).length + ((List.range (cap - len)).map fun j => D (len + j)).length) * Tryd.prog.bytesOf 64) (by simp [DataW.weights, Tryd.underlying38])
      rw [bytes_i8l] at this
      simp only [List.length_map, List.length_range, reachBytes] at this
      omega
    have hrow : ∀ i, i < len → ∃ xs : List Int, I8s (· < W.heap.size) W (V i) xs ∧ (∀ x ∈ xs, -128 ≤ x ∧ x ≤ 127) := fun i hi =>
      i8s_open (hV i (by omega)).2 (fun k hk => hs k (by
        simp only [DataW.weights, Tryd.underlying38, List.mem_cons, List.mem_append]
        exact .inr (.inl (weightsAll_mem (List.mem_map.2 ⟨i, List.mem_range.2 hi, rfl⟩) k hk))))
    have hch : ∃ f : Nat → List Int, ∀ i, i < len → I8s (· < W.heap.size) W (V i) (f i) ∧ (∀ x ∈ f i, -128 ≤ x ∧ x ≤ 127) :=
      ⟨fun i => if h : i < len then (hrow i h).choose else [], fun i hi => by dsimp only; rw [dif_pos hi]; exact (hrow i hi).choose_spec⟩
    obtain ⟨f, hf⟩ := hch
    refine ⟨(List.range len).map f, some a, cap, by simp, ⟨(List.range len).map V, ⟨some a, cap, by simp, by simpa using hl, hm, by simp; omega, ?_⟩, by simp, fun i hi hi' => ?_⟩, fun l hl' => ?_⟩
    · by_cases h0 : len = 0
      · subst h0; exact .inl rfl
      · obtain ⟨b, off, spot⟩ := a
        have hspot : spot = none := by simpa [Addr.add] using World.cell?_spot (hV 0 (by omega)).1
        subst hspot
        have hc0 := (hV 0 (by omega)).1
        refine .inr ⟨b, off, rfl, cell_lt (by simpa [Addr.add] using hc0), fun j hj => ?_⟩
        have hj2 : j < len := by simpa using hj
        rw [show (⟨b, off + j, none⟩ : Addr) = (⟨b, off, none⟩ : Addr).add j from by simp [Addr.add], (hV j (by omega)).1]
        simp
    · have hi2 : i < len := by simpa using hi
      simp only [List.getElem_map, List.getElem_range]
      exact (hf i hi2).1
    · obtain ⟨i, hi, rfl⟩ := List.mem_map.1 hl'
      exact (hf i (List.mem_range.1 hi)).2

end
end Go.Proofs.YtfllhhgnflpagaaDoor
