/-
  The texts of programs, line by line (no program in sight).
-/
import Derived.Test.YtoofbgoeipijcaaDoorSPlS
import Derived.Test.YtoofbgoeipijcaaDoorSPcC
import Derived.Test.YtoofbgoeipijcaaDoorSPpW
import Derived.Test.YtoofbgoeipijcaaDoorSPgP
namespace Go.Proofs.YtoofbgoeipijcaaDoor
set_option linter.unusedSimpArgs false
set_option linter.unusedVariables false
open Go.RowKit Go.Shelf
attribute [local go_sem] Oper.semAt_some

theorem fewL_mem {l : List In} {y : In} (h : y ∈ fewL l) : ∃ x ∈ l, y = fewI x := by
  obtain ⟨x, hx, rfl⟩ := List.mem_map.1 h
  exact ⟨x, List.mem_of_mem_take hx, rfl⟩
theorem few_ok {p : Pg} (h : QP p) : PgOk (fewP p) ∧ NumP (fewP p) := by
  have hi : ∀ {l : List In}, (∀ x ∈ l, QI x) → ∀ y ∈ fewL l, (y.kind ≤ 255 ∧ y.op ≤ 255) ∧ NumI y := fun hl y hy => by
    obtain ⟨x, hx, rfl⟩ := fewL_mem hy
    refine ⟨(hl x hx).1, fun a ha => ?_⟩
    have := ((hl x hx).2.2.2.1 a (List.mem_of_mem_take ha)).2
    show a.num ≤ 18446744073709551615
    omega
  have hf : ∀ g ∈ (fewP p).funcs, ∃ f ∈ p.funcs, g = fewF f := fun g hg => by
    obtain ⟨f, hf, rfl⟩ := List.mem_map.1 hg
    exact ⟨f, List.mem_of_mem_take hf, rfl⟩
  refine ⟨⟨fun g hg x hx => ?_, fun x hx => (hi h.2.2.2.2 x hx).1⟩, ⟨fun g hg x hx => ?_, fun x hx => (hi h.2.2.2.2 x hx).2⟩⟩
  · obtain ⟨f, hf', rfl⟩ := hf g hg
    exact (hi (h.2.2.2.1 f hf').2.2.1 x hx).1
  · obtain ⟨f, hf', rfl⟩ := hf g hg
    exact (hi (h.2.2.2.1 f hf').2.2.1 x hx).2
/-- How many instructions the first functions have. -/
def codesN (l : List Fu) (k : Nat) : Nat := ((l.take k).map fun f => f.code.length).sum
theorem codes_next (l : List Fu) (k : Nat) (hk : k < l.length) : codesN l (k + 1) = codesN l k + l[k].code.length := by
  unfold codesN
  rw [List.take_succ_eq_append_getElem hk, List.map_append, List.sum_append]
  simp only [List.map_cons, List.map_nil, List.sum_cons, List.sum_nil, Nat.add_zero]
theorem flat_sum : ∀ (l : List Fu), (l.flatMap funcT).length = 2 * l.length + (l.map fun f => f.code.length).sum
  | [] => rfl
  | f :: r => by
    have h : (funcT f).length = 2 + f.code.length := by unfold funcT bodyT; simp; omega
    rw [List.flatMap_cons, List.length_append, flat_sum r, h, List.length_cons, List.map_cons, List.sum_cons]; omega
theorem L3_len (q : Pg) : (L3 q).length = 1 + q.chans.length + q.arrays.length + 2 * q.funcs.length + codesN q.funcs q.funcs.length := by
  unfold L3 L2 L1 hdL codesN
  rw [List.take_length, List.length_append, flat_sum]
  simp only [List.length_append, List.length_map, List.length_cons, List.length_nil]
  omega
theorem lines_main (q : Pg) : linesT q ++ [[]] = L3 q ++ (wMain :: (q.main.map lineM ++ [wEnd, []])) := by
  rw [lines_L5]; unfold L5 L4; simp
theorem lines_size (q : Pg) : (linesT q).length = (L3 q).length + q.main.length + 2 := by
  rw [lines_L5]; unfold L5 L4; simp only [List.length_append, List.length_map, List.length_cons, List.length_nil]; omega
theorem line_main (q : Pg) : (linesT q ++ [[]])[(L3 q).length]? = some wMain := by
  rw [lines_main, List.getElem?_append_right (Nat.le_refl _), Nat.sub_self]; rfl
theorem line_instr (q : Pg) (i : Nat) (hi : i < q.main.length) : (linesT q ++ [[]])[(L3 q).length + 1 + i]? = some (lineM q.main[i]) := by
  rw [lines_main, List.getElem?_append_right (by omega), show (L3 q).length + 1 + i - (L3 q).length = i + 1 by omega, List.getElem?_cons_succ, List.getElem?_append_left (by simpa using hi), List.getElem?_map, List.getElem?_eq_getElem hi]; rfl
theorem line_end (q : Pg) : (linesT q ++ [[]])[(L3 q).length + 1 + q.main.length]? = some wEnd := by
  rw [lines_main, List.getElem?_append_right (by omega), show (L3 q).length + 1 + q.main.length - (L3 q).length = q.main.length + 1 by omega, List.getElem?_cons_succ, List.getElem?_append_right (by simp)]; simp
theorem line_last (q : Pg) : (linesT q ++ [[]])[(L3 q).length + 2 + q.main.length]? = some [] := by
  rw [lines_main, List.getElem?_append_right (by omega), show (L3 q).length + 2 + q.main.length - (L3 q).length = (q.main.length + 1) + 1 by omega, List.getElem?_cons_succ, List.getElem?_append_right (by simp)]; simp
theorem lines_nonl (q : Pg) (h : (checkM q).2 = 0) : ∀ l ∈ linesT q, ∀ d ∈ l, d ≠ 10 := by
  rw [lines_jn]
  intro l hl
  obtain ⟨k, hk, rfl⟩ := List.mem_map.1 hl
  exact jn_nl k (okw_lines q h k hk).2
theorem mk_toList (l : List ByteArray) : (l.map (·.data.toList)).map (fun s : Bs => (⟨s.toArray⟩ : ByteArray)) = l := by
  rw [List.map_map]; exact (List.map_congr_left fun s _ => by simp).trans (List.map_id _)
theorem split_cells (L : List Bs) (h : ∀ l ∈ L, ∀ d ∈ l, d ≠ 10) : Lib.countB ⟨(textT L).toArray⟩ ⟨#[10]⟩ = L.length ∧ (Lib.splitB ⟨#[10]⟩ 0 L.length ⟨(textT L).toArray⟩).map Value.string = (L ++ [[]]).map sv := by
  refine ⟨?_, ?_⟩
  · show Lib.count (textT L) [10] = L.length
    rw [Lib.count_one, count_text L h]
  · have h1 := Lib.splitB_data ⟨#[10]⟩ 0 L.length ⟨(textT L).toArray⟩
    have h2 : (Lib.splitB ⟨#[10]⟩ 0 L.length ⟨(textT L).toArray⟩).map (·.data.toList) = L ++ [[]] := h1.trans (split_text L h)
    rw [← mk_toList (Lib.splitB ⟨#[10]⟩ 0 L.length ⟨(textT L).toArray⟩), h2, List.map_map]; rfl

end Go.Proofs.YtoofbgoeipijcaaDoor
