/-
  Lists of bytes in memory, and an argument that is one, opened.
-/
import Derived.Test.YtehjfmbnebeioaaDoorOpen
namespace Go.Proofs.YtehjfmbnebeioaaDoor
set_option linter.unusedSimpArgs false
set_option linter.unusedVariables false
open Go.ChangeShapes Go.WideShapes Go.ChangeAt Go.RowKit Go.Joins

def u8v (c : UInt8) : Value := .int .u8 (c.toNat : Int)
/-- v is a slice that reads as these bytes. -/
def Bys (R : Nat → Prop) (w : World) (v : Value) (b : List UInt8) : Prop := Sl R w v (b.map u8v)
theorem Bys.op {R : Nat → Prop} {w : World} {v : Value} {xs : List UInt8} (h : Bys R w v xs) :
    ∃ p c, v = .slice p xs.length c ∧ xs.length ≤ c ∧ c ≤ maxLen ∧ xs.length ≤ 140737488355328 ∧ RowR R w p (xs.map u8v) := by
  obtain ⟨p, c, e, h1, h2, h3, hr⟩ := h
  rw [List.length_map] at e h1 h3
  exact ⟨p, c, e, h1, h2, h3, hr⟩
theorem Bys.keep {R R' : Nat → Prop} {w w' : World} {v : Value} {xs : List UInt8} (h : Bys R w v xs) (hf : ∀ k, R k → R' k ∧ w'.heap[k]? = w.heap[k]?) : Bys R' w' v xs := Sl.keep h hf
theorem Bys.below {R : Nat → Prop} {w w' : World} {v : Value} {xs : List UInt8} (h : Bys R w v xs) (hR : ∀ k, R k → k < w.heap.size) (hb : Below w.heap.size w w') : Bys R w' v xs := Sl.keep h fun k hk => ⟨hk, hb.block k (hR k hk)⟩
theorem RowR.at8 {R : Nat → Prop} {w : World} {p : Option Addr} {xs : List UInt8} (h : RowR R w p (xs.map u8v)) (k : Nat) (hk : k < xs.length) :
    ∃ b off, p = some ⟨b, off, none⟩ ∧ R b ∧ (∀ j (h : j < xs.length), w.cell? ⟨b, off + j, none⟩ = some (.int .u8 (xs[j].toNat : Int))) := by
  obtain ⟨b, off, e, hR, hc⟩ := h.at k (by simpa using hk)
  exact ⟨b, off, e, hR, fun j hj => by rw [hc j (by simpa using hj)]; simp [u8v]⟩

section
variable {H : Type} {enc : TypeId × Value → H} {W : World}
theorem bytes_u8 : Tryd.prog.bytesOf 5 = 1 := by kernel_rfl
theorem wf_u8 {x : Int} (h : (Lit.int .u8 x).wf = true) : 0 ≤ x ∧ x ≤ 255 := by
  have h1 : IntKind.u8.min = 0 := by decide
  have h2 : IntKind.u8.max = 255 := by decide
  simp [Lit.wf] at h
  omega
theorem wf_u64 {x : Int} (h : (Lit.int .u64 x).wf = true) : 0 ≤ x ∧ x ≤ 18446744073709551615 := by
  have h1 : IntKind.u64.min = 0 := by decide
  have h2 : IntKind.u64.max = 18446744073709551615 := by decide
  simp [Lit.wf] at h
  omega
theorem u8s_open {n : Nat} {v : Value} {y : DataW H × List MemPlace} (h : DataW.trod enc Tryd.prog W 0 (fun _ => true) true n 63 [v] = some y) (hs : ∀ m ∈ y.1.weights Tryd.prog 63, m ≤ reachBytes) :
    ∃ xs, Bys (· < W.heap.size) W v xs := by
  rcases Go.ChangeShapes.open_ints Tryd.underlying63 Tryd.underlying5 (by kernel_rfl) h with ⟨hcs, _⟩ | ⟨a, len, cap, zs, hcs, _, hl, hm, hz, hx, hcell, hwz⟩
  · simp at hcs
    subst hcs
    exact ⟨[], Sl.nil⟩
  · simp at hcs
    subst hcs
    simp only [if_true] at hz
    subst hx
    have hlen : (zs.take len).length = len := by rw [List.length_take]; omega
    have hr : cap * 1 ≤ 140737488351232 := by
      have := hs (((lits (H := H) .u8 (zs.take len)).length + (lits (H := H) .u8 (zs.drop len)).length) * Tryd.prog.bytesOf 5) (by simp [DataW.weights, Tryd.underlying63])
      rw [bytes_u8] at this
      simp only [lits, List.length_map, List.length_take, List.length_drop, reachBytes] at this
      omega
    have hml : ((zs.take len).map fun z => UInt8.ofNat z.toNat).length = len := by rw [List.length_map, hlen]
    refine ⟨(zs.take len).map fun z => UInt8.ofNat z.toNat, some a, cap, by rw [List.length_map, hml], by rw [List.length_map, hml]; exact hl, hm, by rw [List.length_map, hml]; omega, ?_⟩
    by_cases h0 : len = 0
    · subst h0; exact .inl rfl
    · obtain ⟨b, off, spot⟩ := a
      have hspot : spot = none := by simpa [Addr.add] using World.cell?_spot (hcell 0 (by omega))
      subst hspot
      have hc0 := hcell 0 (by omega)
      refine .inr ⟨b, off, rfl, cell_lt (by simpa [Addr.add] using hc0), fun j hj => ?_⟩
      have hj2 : j < len := by rw [List.length_map, hml] at hj; exact hj
      have hjz : j < zs.length := by omega
      rw [show (⟨b, off + j, none⟩ : Addr) = (⟨b, off, none⟩ : Addr).add j from by simp [Addr.add], hcell j (by omega)]
      have hb := wf_u8 (hwz zs[j] (List.getElem_mem hjz))
      have e : (zs.getD j 0) = zs[j] := by simp [List.getD, hjz]
      rw [e]
      simp only [u8v, List.getElem_map, List.getElem_take]
      rw [UInt8.toNat_ofNat']
      congr 2
      omega
end
end Go.Proofs.YtehjfmbnebeioaaDoor
