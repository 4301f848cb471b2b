/-
  The kit: CopyArgs.
-/
import Derived.Test.YtoofbgoeipijcaaDoorPrL
import Derived.Test.YtoofbgoeipijcaaDoorB9
import Derived.Deep.DeepCutAuto
namespace Go.Proofs.YtoofbgoeipijcaaDoor
set_option linter.unusedSimpArgs false
set_option linter.unusedVariables false
open Go.RowKit Go.Shelf
attribute [local go_sem] Oper.semAt_some

theorem info_ag : (Tryd.prog.info? 50).map (fun i => (i.zero, i.size, i.bytes)) = some (some (.agg #[.string ⟨#[]⟩, .int .u64 0]), kAg.n, 24) := by kernel_rfl
set_option maxRecDepth 100000 in
set_option maxHeartbeats 2000000 in
/-- Operands are copied. -/
theorem copyargs_any (l : List Ag) (v : Value) (w : World) (h : SlG kAg (· < w.heap.size) w v l) (hl : l.length ≤ 5864062014805) :
    Calls Tryd.prog 6 #[v] w fun e w' => ∃ v', e = .returned v' ∧ GA kAg w.heap.size 50 w' v' l ∧ Below w.heap.size w w' := by
  obtain ⟨p, c, rfl⟩ := h.slc
  have HS := hid h; have HL := hid hl
  clear h hl
  go_enter Tryd.func6, Tryd.ntmps6
  go_wp2
  go_loopw [3, 4] (fun ov iv wr => ∃ k : Nat, k ≤ l.length ∧ iv = .int .i64 (k : Int) ∧ GA kAg w.heap.size 50 wr ov (l.take k) ∧ Below w.heap.size w wr) (fun _ iv _ => l.length - (intOf iv).toNat)
  case atStart => exact ⟨0, Nat.zero_le _, rfl, GA.nil _ _ _ _, Below.refl _ _⟩
  case round =>
    obtain ⟨k, hk, rfl, hga, hbr⟩ := hrel
    obtain ⟨T, hT⟩ : ∃ T, l.take k = T := ⟨_, rfl⟩
    rw [hT] at hga
    have HTD := hid hT
    clear hT
    obtain ⟨po, co, rfl⟩ := hga.slc
    by_cases hlt : k < l.length
    · obtain ⟨b, off, rfl, hR, hcells⟩ := ag_at HS.out (by omega : 0 < l.length)
      obtain ⟨c0, c1⟩ := hcells k hlt
      have d0 := (hbr.cell (p := ⟨b, off + k * 2, none⟩) hR).trans c0
      have d1 := (hbr.cell (p := ⟨b, off + k * 2 + 1, none⟩) hR).trans c1
      have HSN := hid (show l.take (k + 1) = T ++ [l[k]] from by rw [List.take_succ_eq_append_getElem hlt, HTD.out])
      have HCL := hid (show T.length + 1 ≤ 5864062014805 from by rw [← HTD.out, List.length_take]; have := HL.out; omega)
      have HLT := hid hlt; have HBO := hid hbr; have HGO := hid hga
      clear hcells c0 c1 hR hbr hga HTD
      generalize l[k] = x at *
      clear hlt
      go_wp2_with (at_builtin; refine wpList_push (K := kAg) (x := x) (cs := [.string ⟨x.nm.toArray⟩, .int .u64 (x.num : Int)]) (te := 50) rfl _ _ 22 rfl Tryd.underlying22 _ 24 info_ag rfl HGO.out rfl rfl rfl (by have := HCL.out; omega) (by have := HCL.out; unfold maxLen; omega) HBO.out.size ?_; intro v5 w5 hg5 hgr5 hm5; have HG5 := hid hg5; have HB5 := hid (below_push HGO.out HBO.out hgr5 HBO.out.size); clear hg5 hgr5 hm5)
      go_roundw
      case rel => exact ⟨k + 1, HLT.out, by rw [wrap_next HLT.out HS.out.len], by rw [HSN.out]; exact HG5.out, HB5.out⟩
      case measure => exact meas_next HLT.out HS.out.len
    · obtain rfl : k = l.length := by omega
      have HBR := hid hbr; have HGA := hid hga
      clear hlt hbr hga
      go_wp2_with fail
      go_ret
      have hga := HGA.out
      have hT := HTD.out
      rw [List.take_length] at hT
      subst hT
      exact ⟨_, rfl, hga, HBR.out⟩

end Go.Proofs.YtoofbgoeipijcaaDoor
