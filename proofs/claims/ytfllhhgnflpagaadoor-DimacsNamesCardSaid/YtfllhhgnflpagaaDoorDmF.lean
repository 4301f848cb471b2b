/-
  strconv.AppendInt at base 10, with all that it leaves: the walk.
-/
import Derived.Test.YtfllhhgnflpagaaDoorDmD
import Derived.Test.YtfllhhgnflpagaaDoorFmt
import Derived.Test.YtfllhhgnflpagaaDoorRowM
import Derived.Lib.AppendIntMem
import Derived.Lib.AppendStr
namespace Go.Proofs.YtfllhhgnflpagaaDoor
set_option linter.unusedSimpArgs false
set_option linter.unusedVariables false
open Go.RowKit Go.Shelf Go.Sort
attribute [local go_sem] Oper.semAt_some
theorem info_u8 : (Tryd.prog.info? 5).map (fun i => (i.zero, i.size, i.bytes)) = some (some (.int .u8 0), 1, 1) := by kernel_rfl
theorem strCells_by (l : List UInt8) : Lib.strCells ⟨l.toArray⟩ = Lib.byteCells l := by simp [Lib.strCells, Lib.byteCells]

/-- What an append of the cells ys leaves. -/
def Apd (B : Nat) (w : World) (v : Value) (n : Nat) (xs ys : List Value) (e : Ending) (w' : World) : Prop :=
  ∃ v', e = .returned v' ∧ RowM B w' v' (n + ys.length) (xs ++ ys) ∧ w.grownBy w' v.ownBlock
theorem byteCells_len (l : List UInt8) : (Lib.byteCells l).length = l.length := by simp [Lib.byteCells]
theorem grown_below {w w1 w2 : World} {row : Option Nat} (hb : Below w.heap.size w w1) (hg : w1.grownBy w2 row) : w.grownBy w2 row :=
  ⟨hg.os.trans hb.os, hg.tape.trans hb.tape, hg.output.trans hb.output, Nat.le_trans hb.size hg.size, fun k hk hne => (hg.block k (Nat.lt_of_lt_of_le hk hb.size) hne).trans (hb.block k hk)⟩

set_option maxHeartbeats 6400000 in
set_option maxRecDepth 100000 in
theorem appuint_any (B n u : Nat) (hu64 : u < 18446744073709551616) (sv : Value) (xs : List Value) (w : World) (hown : RowM B w sv n xs) (hBw : B ≤ w.heap.size) (hlim : n + 20 ≤ 140737488355328)
    (htab : Lib.TabIs Tryd.prog w "internal/strconv.uint64pow10" .u64 Lib.pow10Tab) :
    Calls Tryd.prog 45 #[sv, .int .u64 (u : Int), .int .i64 10] w (Apd B w sv n xs (Lib.byteCells (Lib.decDigits u))) := by
  obtain ⟨i0, hi, hz0, hz1, hz2⟩ := info_parts info_u8
  by_cases hs : u < 100
  · have hwk : IntKind.i64.wrap (u : Int) = u := by rw [IntKind.wrap_i64]; omega
    have hlen : (Lib.decDigits u).length ≤ 20 := by
      rw [Lib.decDigits_length]
      by_cases h10 : u < 10
      · rw [Lib.nDigits_small h10]; omega
      · rw [Lib.nDigits_big h10, Lib.nDigits_small (show u / 10 < 10 by omega)]; omega
    have hsz : (⟨(Lib.decDigits u).toArray⟩ : ByteArray).size = (Lib.decDigits u).length := by simp [ByteArray.size]
    go_enter Tryd.func45, Tryd.ntmps45
    go_wp2_with (first
      | (go_at_call 62; refine (Tryd.internal_strconv_small u hs _).mono ?_; rintro e w' ⟨rfl, rfl⟩)
      | (at_builtin; refine wpList_appM rfl _ _ 37 9 rfl B 5 (.int .u8 0) Tryd.underlying37 info_u8 rfl sv n xs rfl hown hBw (.string ⟨(Lib.decDigits u).toArray⟩) (Lib.decDigits u).length (Lib.byteCells (Lib.decDigits u)) rfl (src_str Tryd.underlying9 _) (by omega) ?_))
    intro v' w1 hown' hgrow _
    go_wp2
    go_ret
    refine ⟨v', rfl, ?_, hgrow⟩
    rw [byteCells_len]; exact hown'
  · have hu1 : 1 ≤ u := by omega
    have hnd20 : Lib.nDigits u ≤ 20 := by have := Lib.numDigits_eq u hu1 hu64; split at this <;> omega
    have hal : Tryd.prog.arrayLen 90 = 24 := by kernel_rfl
    have hsl : ∀ W, (Instr.sliceAt 90 (.pointer (some ⟨w.heap.size, 0, none⟩)) none (some (.int .i64 (Lib.nDigits u : Int))) none).run Tryd.prog W = .ok (.slice (some ⟨w.heap.size, 0, none⟩) (Lib.nDigits u) 24) W := fun W => by
      rw [run_sliceAt_array_h W 90 ⟨w.heap.size, 0, none⟩ (by kernel_rfl) .i64 (Lib.nDigits u : Int) (by omega) (by rw [hal]; omega)]
      go_simp
    have hH0 := holds_zero20 w 90 (Lib.nDigits u) (by omega)
    have hfmt := Tryd.internal_strconv_formatBase10 w.heap.size 0 24 u (Array.replicate (Lib.nDigits u) 0) (w.alloc (.cells Lib.zeros24 90)) hH0 (by rw [Array.size_replicate]; exact Lib.lt_pow_nDigits u) hu64 (by rw [Array.size_replicate]; omega)
    rw [Array.size_replicate] at hfmt
    have HH0 := Lib.hid hH0
    have iu : (100 : Int) ≤ (u : Int) := by omega
    have HOWN := hid hown
    clear hH0 hal hown
    go_enter Tryd.func45, Tryd.ntmps45
    go_wp2_with (first
      | (go_at_call 63; refine (Tryd.internal_strconv_numDigits u hu1 hu64 _ (Lib.tabIs_alloc htab _)).mono ?_; rintro e w' ⟨rfl, rfl⟩))
    refine hfmt.mono ?_
    rintro e w' ⟨rfl, k, v', dk, rfl, hF⟩
    have hrow : RowR (· = w.heap.size) ((putRow (fun (b : UInt8) => Value.int .u8 (b.toNat : Int)) (w.alloc (.cells Lib.zeros24 90)) w.heap.size 0 dk).drewN k) (some ⟨w.heap.size, 0, none⟩) (Lib.byteCells (Lib.decDigits u)) := by
      refine .inr ⟨w.heap.size, 0, rfl, rfl, fun j hj => ?_⟩
      rw [byteCells_len] at hj
      rw [World.cell?_drewN]
      have := cell?_putRow (fun (b : UInt8) => Value.int .u8 (b.toNat : Int)) _ w.heap.size 0 _ dk HH0.out (by rw [hF.size, Array.size_replicate]) j (by rw [hF.size]; rw [Lib.decDigits_length] at hj; exact hj)
      refine Eq.trans this ?_
      have h2 := Lib.row_is_numeral hF j hj
      simp [Lib.byteCells]
      exact congrArg (fun b : UInt8 => (b.toNat : Int)) h2.symm
    have hb2 : Below w.heap.size w ((putRow (fun (b : UInt8) => Value.int .u8 (b.toNat : Int)) (w.alloc (.cells Lib.zeros24 90)) w.heap.size 0 dk).drewN k) := fin20 w (.cells Lib.zeros24 90) dk k
    generalize (putRow (fun (b : UInt8) => Value.int .u8 (b.toNat : Int)) (w.alloc (.cells Lib.zeros24 90)) w.heap.size 0 dk).drewN k = w2 at *
    have hown2 : RowM B w2 sv n xs := HOWN.out.below hb2
    have hlen : (Lib.byteCells (Lib.decDigits u)).length = Lib.nDigits u := by rw [byteCells_len, Lib.decDigits_length]
    have HR := hid hrow; have HB2 := hid hb2; have HO2 := hid hown2; have HL := hid hlen
    clear hrow hb2 hown2 hlen hF hfmt
    go_wp2_with (at_builtin; refine wpList_appM rfl (.tmp 24) (.tmp 26) 37 37 rfl B 5 (.int .u8 0) Tryd.underlying37 info_u8 rfl sv n _ rfl HO2.out (by have := HB2.out.size; omega) (.slice (some ⟨w.heap.size, 0, none⟩) (Lib.nDigits u) 24) (Lib.nDigits u) (Lib.byteCells (Lib.decDigits u)) rfl (src_row Tryd.underlying37 HR.out HL.out (by simp [Lib.byteCells, Value.oneCell'])) (by omega) ?_; intro v4 w4 ho4 hg4 _; have HO4 := hid ho4; have HG4 := hid hg4; clear ho4 hg4)
    go_ret
    exact ⟨v4, rfl, by rw [HL.out]; exact HO4.out, grown_below HB2.out HG4.out⟩

set_option maxHeartbeats 6400000 in
set_option maxRecDepth 100000 in
theorem appint0_any (B n : Nat) (i : Int) (h0 : -9223372036854775808 ≤ i) (h1 : i ≤ 9223372036854775807) (sv : Value) (xs : List Value) (w : World) (hown : RowM B w sv n xs) (hBw : B ≤ w.heap.size) (hlim : n + 21 ≤ 140737488355328)
    (htab : Lib.TabBelow Tryd.prog B w "internal/strconv.uint64pow10" .u64 Lib.pow10Tab) :
    Calls Tryd.prog 35 #[sv, .int .i64 i, .int .i64 10] w (Apd B w sv n xs (Lib.byteCells (Lib.itoa i))) := by
  by_cases hneg : i < 0
  · obtain ⟨u, rfl⟩ : ∃ u : Nat, i = -(u : Int) := ⟨i.natAbs, by omega⟩
    have hu1 : 1 ≤ u := by omega
    have hu64 : u < 18446744073709551616 := by omega
    have hwr : IntKind.u64.wrap (-IntKind.u64.wrap (-(u : Int))) = (u : Int) := by rw [IntKind.wrap_u64, IntKind.wrap_u64]; omega
    rw [Lib.itoa_neg u hu1]
    have HOWN := hid hown
    clear hown
    go_enter Tryd.func35, Tryd.ntmps35
    go_wp2_with (at_builtin; refine wpList_appM rfl _ _ 37 37 rfl B 5 (.int .u8 0) Tryd.underlying37 info_u8 rfl sv n _ rfl (HOWN.out.below ((Below.refl _ _).alloc (Nat.le_refl _) _)) (by rw [World.size_alloc]; omega) (.slice (some ⟨w.heap.size, 0, none⟩) 1 1) 1 [.int .u8 45] rfl (src_row Tryd.underlying37 (RowR.lit w [.int .u8 45] 5 rfl) rfl (by simp [Value.oneCell'])) (by omega) ?_; intro v1 w1 ho1 hg1 hv1)
    have hb1 : Below B w w1 := ((Below.refl B w).alloc hBw _).grown hg1 (by simp; omega) (fun k hk => (HOWN.out.lt k hk).1)
    have htab1 := htab w1 hb1
    have HO1 := hid ho1; have HG1 := hid hg1; have HV1 := hid hv1; have HB1 := hid hb1; have HT := hid htab
    clear ho1 hg1 hv1 hb1 htab
    go_wp2_with (go_at_call 45; refine (appuint_any B (n + 1) u hu64 v1 _ w1 HO1.out (by have := HB1.out.size; omega) (by omega) htab1).mono ?_; rintro e w2 ⟨v2, rfl, ho2, hg2⟩)
    go_ret
    refine ⟨v2, rfl, ?_, ?_⟩
    · have e1 : Lib.byteCells (45 :: Lib.decDigits u) = [Value.int .u8 45] ++ Lib.byteCells (Lib.decDigits u) := by simp [Lib.byteCells]
      rw [e1, ← List.append_assoc, List.length_append]
      rw [show n + ([Value.int .u8 45].length + (Lib.byteCells (Lib.decDigits u)).length) = n + 1 + (Lib.byteCells (Lib.decDigits u)).length by simp; omega]
      exact ho2
    · have hga := (World.grownBy_alloc w (.cells #[.int .u8 45] 5) sv.ownBlock).trans HG1.out
      refine ⟨hg2.os.trans hga.os, hg2.tape.trans hga.tape, hg2.output.trans hga.output, Nat.le_trans hga.size hg2.size, fun k hk hne => (hg2.block k (Nat.lt_of_lt_of_le hk hga.size) (fun e => ?_)).trans (hga.block k hk hne)⟩
      rcases HV1.out with h | h
      · exact hne (e.trans h)
      · rw [h] at e
        cases e
        rw [World.size_alloc] at hk
        omega
  · obtain ⟨u, rfl⟩ : ∃ u : Nat, i = u := ⟨i.toNat, by omega⟩
    have hu64 : u < 18446744073709551616 := by omega
    rw [Lib.itoa_nonneg]
    have HOWN := hid hown
    clear hown
    go_enter Tryd.func35, Tryd.ntmps35
    go_wp2_with (go_at_call 45; refine (appuint_any B n u hu64 sv xs w HOWN.out hBw (by omega) htab.here).mono ?_; rintro e w2 ⟨v2, rfl, ho2, hg2⟩)
    first | go_ret | go_ret2
    exact ⟨v2, rfl, ho2, hg2⟩

set_option maxRecDepth 100000 in
/-- strconv.AppendInt at base 10. -/
theorem appint_any (B n : Nat) (i : Int) (h0 : -9223372036854775808 ≤ i) (h1 : i ≤ 9223372036854775807) (sv : Value) (xs : List Value) (w : World) (hown : RowM B w sv n xs) (hBw : B ≤ w.heap.size) (hlim : n + 21 ≤ 140737488355328)
    (htab : Lib.TabBelow Tryd.prog B w "internal/strconv.uint64pow10" .u64 Lib.pow10Tab) :
    Calls Tryd.prog 22 #[sv, .int .i64 i, .int .i64 10] w (Apd B w sv n xs (Lib.byteCells (Lib.itoa i))) := by
  have HC := hid (appint0_any B n i h0 h1 sv xs w hown hBw hlim htab)
  clear hown htab
  go_enter Tryd.func22, Tryd.ntmps22
  go_wp2_with (go_at_call 35; refine HC.out.mono ?_; rintro e w2 ⟨v2, rfl, ho2, hg2⟩)
  go_ret
  exact ⟨v2, rfl, ho2, hg2⟩

end Go.Proofs.YtfllhhgnflpagaaDoor
