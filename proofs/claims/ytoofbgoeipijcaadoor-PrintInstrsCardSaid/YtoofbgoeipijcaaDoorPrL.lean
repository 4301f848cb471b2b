/-
  What a function calls; loops.
-/
import Derived.Test.YtoofbgoeipijcaaDoorPrK
import Derived.Deep.DeepCutAuto
namespace Go.Proofs.YtoofbgoeipijcaaDoor
set_option linter.unusedSimpArgs false
set_option linter.unusedVariables false
open Go.RowKit Go.Shelf
attribute [local go_sem] Oper.semAt_some

theorem info_strG : (Tryd.prog.info? 9).map (fun i => (i.zero, i.size, i.bytes)) = some (some (.string ⟨#[]⟩), kStr.n, 16) := by kernel_rfl
theorem calls_snoc (l : List In) (k : Nat) (hk : k < l.length) : callsM (l.take (k + 1)) = callsM (l.take k) ++ if l[k].kind = 4 then [l[k].nm] else [] := by
  unfold callsM
  rw [List.take_succ_eq_append_getElem hk, List.filter_append, List.map_append]
  congr 1
  by_cases h : l[k].kind = 4
  · simp [h]
  · simp [h]
theorem calls_len (l : List In) : (callsM l).length ≤ l.length := by
  unfold callsM; rw [List.length_map]; exact List.length_filter_le _ _

set_option maxRecDepth 100000 in
set_option maxHeartbeats 2000000 in
theorem calls_any (l : List In) (v : Value) (w : World) (h : SlG kIn (· < w.heap.size) w v l) (hl : l.length ≤ 100000) :
    Calls Tryd.prog 87 #[v] w fun e w' => ∃ v', e = .returned v' ∧ GA kStr w.heap.size 9 w' v' (callsM l) ∧ Below w.heap.size w w' := by
  obtain ⟨p, c, rfl⟩ := h.slc
  have HS := hid h; have HL := hid hl
  clear h hl
  go_enter Tryd.func87, Tryd.ntmps87
  go_wp2
  go_loopw [3, 8] (fun ov iv wr => ∃ k : Nat, k ≤ l.length ∧ iv = .int .i64 (k : Int) ∧ GA kStr w.heap.size 9 wr ov (callsM (l.take k)) ∧ Below w.heap.size w wr) (fun _ iv _ => l.length - (intOf iv).toNat)
  case atStart => exact ⟨0, Nat.zero_le _, rfl, GA.nil _ _ _ _, Below.refl _ _⟩
  case round =>
    obtain ⟨k, hk, rfl, hga, hbr⟩ := hrel
    obtain ⟨po, co, rfl⟩ := hga.slc
    by_cases hlt : k < l.length
    · obtain ⟨b, off, rfl, hR, hcells⟩ := in_at HS.out (by omega : 0 < l.length)
      obtain ⟨pa, ca, hsa, c0, c1, c2, c3, c4, c5, c6⟩ := hcells k hlt
      have d0 := (hbr.cell (p := ⟨b, off + k * 7, none⟩) hR).trans c0
      have d1 := (hbr.cell (p := ⟨b, off + k * 7 + 1, none⟩) hR).trans c1
      have d2 := (hbr.cell (p := ⟨b, off + k * 7 + 2, none⟩) hR).trans c2
      have d3 := (hbr.cell (p := ⟨b, off + k * 7 + 3, none⟩) hR).trans c3
      have d4 := (hbr.cell (p := ⟨b, off + k * 7 + 4, none⟩) hR).trans c4
      have d5 := (hbr.cell (p := ⟨b, off + k * 7 + 5, none⟩) hR).trans c5
      have d6 := (hbr.cell (p := ⟨b, off + k * 7 + 6, none⟩) hR).trans c6
      have HSN := hid (calls_snoc l k hlt)
      have HCL := hid (show (callsM (l.take k)).length ≤ 100000 from by have h1 := calls_len (l.take k); have h2 := HL.out; rw [List.length_take] at h1; omega)
      have HLT := hid hlt; have HBR := hid hbr; have HGA := hid hga
      clear hcells hsa c0 c1 c2 c3 c4 c5 c6 hR hbr hga
      generalize l[k] = x at *
      go_upto_if 14 with fail
      obtain ⟨wo, hwo⟩ : ∃ W, wr.alloc (.cells #[.int .u8 (x.kind : Int), .int .u8 (x.op : Int), .string ⟨x.dst.toArray⟩, .string ⟨x.nm.toArray⟩, .slice pa x.args.length ca, .int .i64 x.pos.1, .int .i64 x.pos.2] 26) = W := ⟨_, rfl⟩
      have hbo : Below wr.heap.size wr wo := by rw [← hwo]; exact (Below.refl _ _).alloc (Nat.le_refl _) _
      have hbx : BxL 26 wr.heap.size (inL x (.slice pa x.args.length ca)) wo := by rw [← hwo]; exact BxL.new _ _ _
      rw [hwo]
      have n3 : wo.cell? ⟨wr.heap.size, 3, none⟩ = some (.string ⟨x.nm.toArray⟩) := hbx.at 3 rfl
      have HBO := hid (HBR.out.trans (hbo.mono HBR.out.size))
      have HGO := hid (HGA.out.keep hbo)
      clear hwo hbo hbx d0 d1 d2 d3 d4 d5 d6 hlt
      by_cases h4 : x.kind = 4
      · have t4 : ((x.kind : Int) == 4) = true := by rw [h4]; rfl
        have HSN4 := hid (HSN.out.trans (by rw [if_pos h4]))
        clear h4
        go_wp2_with (at_builtin; refine wpList_push (K := kStr) (x := x.nm) (cs := [.string ⟨x.nm.toArray⟩]) (te := 9) rfl _ _ 35 rfl Tryd.underlying35 _ 16 info_strG rfl HGO.out rfl rfl rfl (by have := HCL.out; omega) (by have := HCL.out; unfold maxLen; omega) HBO.out.size ?_; intro v5 w5 hg5 hgr5 hm5; have HG5 := hid hg5; have HB5 := hid (below_push HGO.out HBO.out hgr5 HBO.out.size); clear hg5 hgr5 hm5)
        go_roundw
        case rel => exact ⟨k + 1, HLT.out, by rw [wrap_next HLT.out HS.out.len], by rw [HSN4.out]; exact HG5.out, HB5.out⟩
        case measure => exact meas_next HLT.out HS.out.len
      · have t4 : ((x.kind : Int) == 4) = false := by simp; omega
        have HSN4 := hid (HSN.out.trans (by rw [if_neg h4, List.append_nil]))
        clear h4
        go_wp2_with fail
        go_roundw
        case rel => exact ⟨k + 1, HLT.out, by rw [wrap_next HLT.out HS.out.len], by rw [HSN4.out]; exact HGO.out, HBO.out⟩
        case measure => exact meas_next HLT.out HS.out.len
    · obtain rfl : k = l.length := by omega
      have HBR := hid hbr; have HGA := hid hga
      clear hlt hbr hga
      go_wp2_with fail
      go_ret
      have hga := HGA.out
      rw [List.take_length] at hga
      refine ⟨_, rfl, ?_, HBR.out⟩
      simpa using hga

end Go.Proofs.YtoofbgoeipijcaaDoor
