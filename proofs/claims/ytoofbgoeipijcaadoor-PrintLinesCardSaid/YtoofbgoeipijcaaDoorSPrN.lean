/-
  Names of programs: the laid lists; prog.named.
-/
import Derived.Test.YtoofbgoeipijcaaDoorSPrO2
import Derived.Test.YtoofbgoeipijcaaDoorSPrM
import Derived.Test.YtoofbgoeipijcaaDoorShelf
import Derived.Lib.LaidTab
namespace Go.Proofs.YtoofbgoeipijcaaDoor
set_option linter.unusedSimpArgs false
set_option linter.unusedVariables false
open Go.RowKit Go.Shelf
attribute [local go_sem] Oper.semAt_some

theorem cell_size {w : World} {b i : Nat} {v : Value} (h : w.cell? ⟨b, i, none⟩ = some v) : b < w.heap.size := by
  rcases Nat.lt_or_ge b w.heap.size with h1 | h1
  · exact h1
  · simp [World.cell?, Array.getElem?_eq_none h1] at h
theorem tab_below {B : Nat} {w w' : World} (hb : Below B w w') (hB : w.heap.size ≤ B) {name : String} {k : IntKind} {zs : List Int} (h : Lib.TabIs Tryd.prog w name k zs) : Lib.TabIs Tryd.prog w' name k zs := by
  unfold Lib.TabIs World.var? at *
  cases hg : Tryd.prog.globalNamed name with
  | none => simp [hg] at h
  | some g =>
    simp only [hg, Option.bind_some] at h ⊢
    have hlt : g < w.heap.size := by
      rcases Nat.lt_or_ge g w.heap.size with h' | h'
      · exact h'
      · rw [Array.getElem?_eq_none h'] at h; simp at h
    rw [hb.block g (by omega)]
    exact h
/-- The laid variables, as the walks want them. -/
structure PrE (w : World) : Prop where
  kw : ∃ b off c, w.cell? ⟨2, 0, none⟩ = some (.slice (some ⟨b, off, none⟩) 16 c) ∧ ∀ j, j < 16 → w.cell? ⟨b, off + j, none⟩ = some (.string ⟨(kwL.getD j []).toArray⟩)
  form : ∀ k, k < 13 → w.cell? ⟨3, 3 * k, none⟩ = some (.bool (fieldsL.getD k (false, false, 0)).1) ∧ w.cell? ⟨3, 3 * k + 1, none⟩ = some (.bool (fieldsL.getD k (false, false, 0)).2.1) ∧ w.cell? ⟨3, 3 * k + 2, none⟩ = some (.int .i64 (fieldsL.getD k (false, false, 0)).2.2)
  pow : Lib.TabIs Tryd.prog w "internal/strconv.uint64pow10" .u64 Lib.pow10Tab
theorem PrE.below {w w' : World} (h : PrE w) (hb : Below w.heap.size w w') : PrE w' := by
  obtain ⟨⟨b, off, c, h1, h2⟩, h3, h4⟩ := h
  refine ⟨⟨b, off, c, (hb.cell (p := ⟨_, _, none⟩) (cell_size h1)).trans h1, fun j hj => (hb.cell (p := ⟨_, _, none⟩) (cell_size (h2 j hj))).trans (h2 j hj)⟩, fun k hk => ?_, tab_below hb (Nat.le_refl _) h4⟩
  obtain ⟨a1, a2, a3⟩ := h3 k hk
  exact ⟨(hb.cell (p := ⟨_, _, none⟩) (cell_size a1)).trans a1, (hb.cell (p := ⟨_, _, none⟩) (cell_size a2)).trans a2, (hb.cell (p := ⟨_, _, none⟩) (cell_size a3)).trans a3⟩

theorem containsS_eq (l : List Bs) (s : Bs) : Lib.containsS (l.map fun x => (⟨x.toArray⟩ : ByteArray)) ⟨s.toArray⟩ = l.contains s := by
  rw [Bool.eq_iff_iff, Lib.containsS_iff, List.contains_iff_mem, List.mem_map]
  constructor
  · rintro ⟨x, hx, e⟩
    have := congrArg (fun b : ByteArray => b.data.toList) e
    exact (show x = s from this) ▸ hx
  · exact fun h => ⟨s, h, rfl⟩
set_option maxRecDepth 100000 in
set_option maxHeartbeats 2000000 in
theorem name_long (s : Bs) (w : World) (hs : 32 < s.length) : Calls Tryd.prog 103 #[.string ⟨s.toArray⟩] w fun e w' => e = .returned (.bool (nameB s)) ∧ Below w.heap.size w w' := by
  obtain ⟨sb, hsb⟩ : ∃ sb : ByteArray, (⟨s.toArray⟩ : ByteArray) = sb := ⟨_, rfl⟩
  have hsz : sb.size = s.length := by rw [← hsb]; exact size_mk s
  have hnm : nameB s = false := by unfold nameB; rw [decide_eq_false (by omega : ¬ s.length ≤ 32)]; simp
  rw [hsb, hnm]
  have hem := empty_of sb
  rw [show decide (sb.size = 0) = false from decide_eq_false (by omega)] at hem
  have a0 : decide (32 < (sb.size : Int)) = true := by simp; omega
  clear hsb hnm hsz hs
  go_enter Tryd.func103, Tryd.ntmps103
  go_wp2
  go_ret
  exact ⟨rfl, Below.refl _ _⟩
theorem name_all (s : Bs) (w : World) : Calls Tryd.prog 103 #[.string ⟨s.toArray⟩] w fun e w' => e = .returned (.bool (nameB s)) ∧ Below w.heap.size w w' := by
  by_cases h : 32 < s.length
  · exact name_long s w h
  · exact name_any s w (by omega)
theorem kw_contains (s : Bs) (w : World) (hE : PrE w) : ∃ v, w.cell? ⟨2, 0, none⟩ = some v ∧ Calls Tryd.prog 104 #[v, .string ⟨s.toArray⟩] w fun e w' => e = .returned (.bool (kwB s)) ∧ w' = w := by
  obtain ⟨⟨b, off, c, h1, h2⟩, _, _⟩ := hE
  refine ⟨_, h1, ?_⟩
  refine (Tryd.slices_Contains_string b off 16 c (kwL.map fun x => (⟨x.toArray⟩ : ByteArray)) ⟨s.toArray⟩ w (by decide) (by omega) fun j hj => ?_).mono fun e w' ⟨h1, h2⟩ => ⟨?_, h2⟩
  · have hj' : j < kwL.length := by simpa using hj
    rw [h2 j hj', List.getD_eq_getElem?_getD, List.getD_eq_getElem?_getD, List.getElem?_map, List.getElem?_eq_getElem hj']
    rfl
  · rw [h1, List.take_of_length_le (by decide), containsS_eq]; rfl

set_option maxRecDepth 100000 in
set_option maxHeartbeats 2000000 in
theorem named_any (s : Bs) (w : World) (hE : PrE w) : Calls Tryd.prog 83 #[.string ⟨s.toArray⟩] w fun e w' => e = .returned (.bool (namedB s)) ∧ Below w.heap.size w w' := by
  have HE := hid hE
  have HOF := hid (ofM_err s)
  clear hE
  obtain ⟨o, ho⟩ : ∃ o, ofM s = o := ⟨_, rfl⟩
  rw [ho] at HOF
  have HO := hid ho
  obtain ⟨o1, o2⟩ := o
  have HNB := hid (show namedB s = (nameB s && !opB s && !kwB s) from rfl)
  obtain ⟨bn, hbn⟩ : ∃ b, nameB s = b := ⟨_, rfl⟩
  obtain ⟨bo, hbo⟩ : ∃ b, opB s = b := ⟨_, rfl⟩
  obtain ⟨bk, hbk⟩ : ∃ b, kwB s = b := ⟨_, rfl⟩
  rw [hbn, hbo, hbk] at HNB
  rw [hbo] at HOF
  have HBN := hid hbn; have HBK := hid hbk
  have hne := HOF.out
  simp only at hne
  clear ho hbn hbo hbk
  have HC0 := hid (fun W => of_any s W)
  have HC1 := hid (fun W => name_all s W)
  go_enter Tryd.func83, Tryd.ntmps83
  cases bn <;> cases bo <;> cases bk
  all_goals (
    simp only [Bool.not_true, Bool.not_false] at hne
    go_wp2_with (first
      | (go_at_call 102; refine (HC0.out _).mono ?_; rw [HO.out]; rintro e w1 ⟨rfl, hb1⟩; have HB1 := hid hb1; have HE1 := hid (HE.out.below hb1); clear hb1)
      | (go_at_call 103; refine (HC1.out _).mono ?_; rw [HBN.out]; rintro e w2 ⟨rfl, hb2⟩; have HB2 := hid (HB1.out.trans (hb2.mono HB1.out.size)); have HE2 := hid (HE1.out.below hb2); obtain ⟨kv, hkv, hkc⟩ := kw_contains s _ HE2.out; have HK := hid hkc; clear hb2 hkc)
      | (go_at_call 104; refine HK.out.mono ?_; rw [HBK.out]; rintro e w3 ⟨rfl, rfl⟩))
    go_ret
    exact ⟨by rw [HNB.out]; rfl, by first | exact HB2.out | exact HB1.out⟩)

end Go.Proofs.YtoofbgoeipijcaaDoor
