/-
  What a function calls; loops.
  strconv.FormatUint at base 10: the walk, over the shelf's contracts of its callees.
-/
import Derived.Test.YtoofbgoeipijcaaDoorSPrK
import Derived.Deep.DeepCutAuto
import Derived.Test.YtoofbgoeipijcaaDoorSLib
import Derived.Test.YtoofbgoeipijcaaDoorShelf
import Derived.Lib.ItoaMem
namespace Go.Proofs.YtoofbgoeipijcaaDoor
set_option linter.unusedSimpArgs false
set_option linter.unusedVariables false
open Go.RowKit Go.Shelf
attribute [local go_sem] Oper.semAt_some

theorem info_strG : (Tryd.prog.info? 9).map (fun i => (i.zero, i.size, i.bytes)) = some (some (.string ⟨#[]⟩), kStr.n, 16) := by kernel_rfl
theorem calls_snoc (l : List In) (k : Nat) (hk : k < l.length) : callsM (l.take (k + 1)) = callsM (l.take k) ++ if l[k].kind = 4 then [l[k].nm] else [] := by
  unfold callsM
  rw [List.take_succ_eq_append_getElem hk, List.filter_append, List.map_append]
  congr 1
  by_cases h : l[k].kind = 4
  · simp [h]
  · simp [h]
theorem calls_len (l : List In) : (callsM l).length ≤ l.length := by
  unfold callsM; rw [List.length_map]; exact List.length_filter_le _ _

set_option maxRecDepth 100000 in
set_option maxHeartbeats 2000000 in
theorem calls_any (l : List In) (v : Value) (w : World) (h : SlG kIn (· < w.heap.size) w v l) (hl : l.length ≤ 100000) :
    Calls Tryd.prog 87 #[v] w fun e w' => ∃ v', e = .returned v' ∧ GA kStr w.heap.size 9 w' v' (callsM l) ∧ Below w.heap.size w w' := by
  obtain ⟨p, c, rfl⟩ := h.slc
  have HS := hid h; have HL := hid hl
  clear h hl
  go_enter Tryd.func87, Tryd.ntmps87
  go_wp2
  go_loopw [3, 8] (fun ov iv wr => ∃ k : Nat, k ≤ l.length ∧ iv = .int .i64 (k : Int) ∧ GA kStr w.heap.size 9 wr ov (callsM (l.take k)) ∧ Below w.heap.size w wr) (fun _ iv _ => l.length - (intOf iv).toNat)
  case atStart => exact ⟨0, Nat.zero_le _, rfl, GA.nil _ _ _ _, Below.refl _ _⟩
  case round =>
    obtain ⟨k, hk, rfl, hga, hbr⟩ := hrel
    obtain ⟨po, co, rfl⟩ := hga.slc
    by_cases hlt : k < l.length
    · obtain ⟨b, off, rfl, hR, hcells⟩ := in_at HS.out (by omega : 0 < l.length)
      obtain ⟨pa, ca, hsa, c0, c1, c2, c3, c4, c5, c6⟩ := hcells k hlt
      have d0 := (hbr.cell (p := ⟨b, off + k * 7, none⟩) hR).trans c0
      have d1 := (hbr.cell (p := ⟨b, off + k * 7 + 1, none⟩) hR).trans c1
      have d2 := (hbr.cell (p := ⟨b, off + k * 7 + 2, none⟩) hR).trans c2
      have d3 := (hbr.cell (p := ⟨b, off + k * 7 + 3, none⟩) hR).trans c3
      have d4 := (hbr.cell (p := ⟨b, off + k * 7 + 4, none⟩) hR).trans c4
      have d5 := (hbr.cell (p := ⟨b, off + k * 7 + 5, none⟩) hR).trans c5
      have d6 := (hbr.cell (p := ⟨b, off + k * 7 + 6, none⟩) hR).trans c6
      have HSN := hid (calls_snoc l k hlt)
      have HCL := hid (show (callsM (l.take k)).length ≤ 100000 from by have h1 := calls_len (l.take k); have h2 := HL.out; rw [List.length_take] at h1; omega)
      have HLT := hid hlt; have HBR := hid hbr; have HGA := hid hga
      clear hcells hsa c0 c1 c2 c3 c4 c5 c6 hR hbr hga
      generalize l[k] = x at *
      go_upto_if 14 with fail
      obtain ⟨wo, hwo⟩ : ∃ W, wr.alloc (.cells #[.int .u8 (x.kind : Int), .int .u8 (x.op : Int), .string ⟨x.dst.toArray⟩, .string ⟨x.nm.toArray⟩, .slice pa x.args.length ca, .int .i64 x.pos.1, .int .i64 x.pos.2] 26) = W := ⟨_, rfl⟩
      have hbo : Below wr.heap.size wr wo := by rw [← hwo]; exact (Below.refl _ _).alloc (Nat.le_refl _) _
      have hbx : BxL 26 wr.heap.size (inL x (.slice pa x.args.length ca)) wo := by rw [← hwo]; exact BxL.new _ _ _
      rw [hwo]
      have n3 : wo.cell? ⟨wr.heap.size, 3, none⟩ = some (.string ⟨x.nm.toArray⟩) := hbx.at 3 rfl
      have HBO := hid (HBR.out.trans (hbo.mono HBR.out.size))
      have HGO := hid (HGA.out.keep hbo)
      clear hwo hbo hbx d0 d1 d2 d3 d4 d5 d6 hlt
      by_cases h4 : x.kind = 4
      · have t4 : ((x.kind : Int) == 4) = true := by rw [h4]; rfl
        have HSN4 := hid (HSN.out.trans (by rw [if_pos h4]))
        clear h4
        go_wp2_with (at_builtin; refine wpList_push (K := kStr) (x := x.nm) (cs := [.string ⟨x.nm.toArray⟩]) (te := 9) rfl _ _ 35 rfl Tryd.underlying35 _ 16 info_strG rfl HGO.out rfl rfl rfl (by have := HCL.out; omega) (by have := HCL.out; unfold maxLen; omega) HBO.out.size ?_; intro v5 w5 hg5 hgr5 hm5; have HG5 := hid hg5; have HB5 := hid (below_push HGO.out HBO.out hgr5 HBO.out.size); clear hg5 hgr5 hm5)
        go_roundw
        case rel => exact ⟨k + 1, HLT.out, by rw [wrap_next HLT.out HS.out.len], by rw [HSN4.out]; exact HG5.out, HB5.out⟩
        case measure => exact meas_next HLT.out HS.out.len
      · have t4 : ((x.kind : Int) == 4) = false := by simp; omega
        have HSN4 := hid (HSN.out.trans (by rw [if_neg h4, List.append_nil]))
        clear h4
        go_wp2_with fail
        go_roundw
        case rel => exact ⟨k + 1, HLT.out, by rw [wrap_next HLT.out HS.out.len], by rw [HSN4.out]; exact HGO.out, HBO.out⟩
        case measure => exact meas_next HLT.out HS.out.len
    · obtain rfl : k = l.length := by omega
      have HBR := hid hbr; have HGA := hid hga
      clear hlt hbr hga
      go_wp2_with fail
      go_ret
      have hga := HGA.out
      rw [List.take_length] at hga
      refine ⟨_, rfl, ?_, HBR.out⟩
      simpa using hga

end Go.Proofs.YtoofbgoeipijcaaDoor

namespace Go.Proofs.YtoofbgoeipijcaaDoor
set_option linter.unusedSimpArgs false
set_option linter.unusedVariables false
open Go.RowKit Go.Shelf Go.Lib Go.Sort

theorem holds_zero20 (w : World) (T : TypeId) (nd : Nat) (hs : nd ≤ 24) : Holds (fun (b : UInt8) => Value.int .u8 (b.toNat : Int)) (w.alloc (.cells Lib.zeros24 T)) w.heap.size 0 (Array.replicate nd (0 : UInt8)) := fun j hj => by
  have hj' : j < nd := by simpa using hj
  refine ⟨?_, World.frozen?_alloc_new _ _ _ _⟩
  rw [World.cell?_alloc_new, zeros24_at _ (by omega), getElem!_pos _ j hj]
  simp
theorem fin20 (w : World) (o : Obj) (dk : Array UInt8) (k : Nat) : Below w.heap.size w ((putRow (fun (b : UInt8) => Value.int .u8 (b.toNat : Int)) (w.alloc o) w.heap.size 0 dk).drewN k) := by
  rw [alloc_eq_grow]
  obtain ⟨os', _, e⟩ := putRow_grow_new (fun (b : UInt8) => Value.int .u8 (b.toNat : Int)) w #[o] w.heap.size 0 dk (Nat.le_refl _)
  rw [e]
  refine ⟨rfl, rfl, rfl, ?_, fun k hk => ?_⟩
  · show w.heap.size ≤ (w.heap ++ os').size
    simp
  · show (w.heap ++ os')[k]? = _
    rw [Array.getElem?_append_left hk]

set_option maxHeartbeats 6400000 in
set_option maxRecDepth 100000 in
theorem fmtuint_any (u : Nat) (hu64 : u < 18446744073709551616) (w : World) (htab : Lib.TabIs Tryd.prog w "internal/strconv.uint64pow10" .u64 Lib.pow10Tab) :
    Calls Tryd.prog 106 #[.int .u64 (u : Int), .int .i64 10] w fun e w' => e = .returned (.string ⟨(Lib.decDigits u).toArray⟩) ∧ Below w.heap.size w w' := by
  by_cases hs : u < 100
  · have hwk : IntKind.i64.wrap (u : Int) = u := by rw [IntKind.wrap_i64]; omega
    go_enter Tryd.func106, Tryd.ntmps106
    go_wp2_with (go_at_call 79; refine (Tryd.internal_strconv_small u hs _).mono ?_; rintro e w' ⟨rfl, rfl⟩)
    go_ret
    exact ⟨rfl, Below.refl _ _⟩
  · have hu1 : 1 ≤ u := by omega
    have hnd20 : Lib.nDigits u ≤ 20 := by have := Lib.numDigits_eq u hu1 hu64; split at this <;> omega
    have hal : Tryd.prog.arrayLen 123 = 24 := by kernel_rfl
    have hsl : ∀ W, (Instr.sliceAt 123 (.pointer (some ⟨w.heap.size, 0, none⟩)) none (some (.int .i64 (Lib.nDigits u : Int))) none).run Tryd.prog W = .ok (.slice (some ⟨w.heap.size, 0, none⟩) (Lib.nDigits u) 24) W := fun W => by
      rw [run_sliceAt_array_h W 123 ⟨w.heap.size, 0, none⟩ (by kernel_rfl) .i64 (Lib.nDigits u : Int) (by omega) (by rw [hal]; omega)]
      go_simp
    have hH0 := holds_zero20 w 123 (Lib.nDigits u) (by omega)
    have hfmt := Tryd.internal_strconv_formatBase10 w.heap.size 0 24 u (Array.replicate (Lib.nDigits u) 0) (w.alloc (.cells Lib.zeros24 123)) hH0 (by rw [Array.size_replicate]; exact Lib.lt_pow_nDigits u) hu64 (by rw [Array.size_replicate]; omega)
    rw [Array.size_replicate] at hfmt
    have HH0 := Lib.hid hH0
    clear hH0 hal
    go_enter Tryd.func106, Tryd.ntmps106
    go_wp2_with (first
      | (go_at_call 80; refine (Tryd.internal_strconv_numDigits u hu1 hu64 _ (Lib.tabIs_alloc htab _)).mono ?_; rintro e w' ⟨rfl, rfl⟩))
    refine hfmt.mono ?_
    rintro e w' ⟨rfl, k, v', dk, rfl, hF⟩
    have hcv : (convert 68 9 (.slice (some ⟨w.heap.size, 0, none⟩) (Lib.nDigits u) 24)).run Tryd.prog ((putRow (fun (b : UInt8) => Value.int .u8 (b.toNat : Int)) (w.alloc (.cells Lib.zeros24 123)) w.heap.size 0 dk).drewN k) = .ok (.string ⟨(Lib.decDigits u).toArray⟩) ((putRow (fun (b : UInt8) => Value.int .u8 (b.toNat : Int)) (w.alloc (.cells Lib.zeros24 123)) w.heap.size 0 dk).drewN k) := by
      have h := run_convert_bytes_back (P := Tryd.prog) ((putRow (fun (b : UInt8) => Value.int .u8 (b.toNat : Int)) (w.alloc (.cells Lib.zeros24 123)) w.heap.size 0 dk).drewN k) 68 9 5 ⟨w.heap.size, 0, none⟩ 24 (Lib.decDigits u) Tryd.underlying68 Tryd.underlying5 Tryd.underlying9 (fun j hj => by
        rw [Lib.row_is_numeral hF j hj, Lib.add_plain, World.cell?_drewN]
        exact cell?_putRow (fun (b : UInt8) => Value.int .u8 (b.toNat : Int)) _ w.heap.size 0 _ dk HH0.out (by rw [hF.size, Array.size_replicate]) j (by rw [hF.size]; rw [Lib.decDigits_length] at hj; exact hj))
      rw [Lib.decDigits_length] at h
      exact h
    go_wp2
    go_ret
    exact ⟨rfl, fin20 w (.cells Lib.zeros24 123) dk k⟩

/-- strconv.FormatUint at base 10. -/
theorem formatuint_any (u : Nat) (hu64 : u < 18446744073709551616) (w : World) (htab : Lib.TabIs Tryd.prog w "internal/strconv.uint64pow10" .u64 Lib.pow10Tab) :
    Calls Tryd.prog 88 #[.int .u64 (u : Int), .int .i64 10] w fun e w' => e = .returned (.string ⟨(Lib.decDigits u).toArray⟩) ∧ Below w.heap.size w w' := by
  go_enter Tryd.func88, Tryd.ntmps88
  go_wp2_with (go_at_call 106; refine (fmtuint_any u hu64 _ htab).mono ?_; rintro e w' ⟨rfl, hb⟩)
  go_ret
  exact ⟨rfl, hb⟩
end Go.Proofs.YtoofbgoeipijcaaDoor
