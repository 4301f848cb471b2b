/-
  Package dimacs: how many lines a text has.
-/
import Derived.Test.YtfllhhgnflpagaaDoorDmV
namespace Go.Proofs.YtfllhhgnflpagaaDoor
set_option linter.unusedSimpArgs false
set_option linter.unusedVariables false
open Go.RowKit Go.Shelf
attribute [local go_sem] Oper.semAt_some

/-- What lay in w0 lies as it lay, and none of it is others'. -/
def Old (w0 : World) : SP := fun F W => Below w0.heap.size w0 W ∧ ∀ k, F k → w0.heap.size ≤ k
theorem clo_Old (w0 : World) : Clo (Old w0) := by
  rintro F F' W W' ⟨hb, hf⟩ he hF
  refine ⟨⟨he.os.trans hb.os, he.tape.trans hb.tape, he.output.trans hb.output, Nat.le_trans hb.size he.size, fun k hk => (he.block k (Nat.lt_of_lt_of_le hk hb.size) (fun h => by have := hf k h; omega)).trans (hb.block k hk)⟩, fun k hk => ?_⟩
  rcases hF k hk with h | h
  · exact hf k h
  · have := hb.size; omega
/-- One cell of one's own. -/
def Cel (b i : Nat) (v : Value) : SP := fun F W => ¬ F b ∧ W.cell? ⟨b, i, none⟩ = some v ∧ W.frozen? ⟨b, i, none⟩ = false
theorem clo_Cel (b i : Nat) (v : Value) : Clo (Cel b i v) := by
  rintro F F' W W' ⟨hf, hc, hz⟩ he hF
  have hb := cell_size hc
  have e := he.block b hb hf
  refine ⟨fun h => ?_, (World.cell?_of_block (a := ⟨b, i, none⟩) e).trans hc, (World.frozen?_of_block (a := ⟨b, i, none⟩) e).trans hz⟩
  rcases hF b h with h | h
  · exact hf h
  · omega
theorem clo_and {I J : SP} (hI : Clo I) (hJ : Clo J) : Clo (fun F W => I F W ∧ J F W) := fun F F' W W' h he hF => ⟨hI F F' W W' h.1 he hF, hJ F F' W W' h.2 he hF⟩
theorem clo_pure (p : Prop) : Clo (fun _ _ => p) := fun _ _ _ _ h _ _ => h

def CI (w0 : World) (b : Nat) (s : Bs) (n : Nat) (t : Bs) : SP := fun F W => Old w0 F W ∧ Cel b 0 (.int .i64 ((n : Int) - 1)) F W ∧ (1 ≤ n ∧ n + (linesM t).length = (linesM s).length + 1)
theorem clo_CI (w0 : World) (b : Nat) (s : Bs) (n : Nat) (t : Bs) : Clo (CI w0 b s n t) := clo_and (clo_Old w0) (clo_and (clo_Cel _ _ _) (clo_pure _))

set_option maxRecDepth 100000 in
set_option maxHeartbeats 1000000 in
theorem count_any (s : Bs) (hs : s.length ≤ 65536) (w : World) (m : Int) (hm : w.cell? ⟨3, 0, none⟩ = some (.int .i64 m)) :
    Calls Tryd.prog 29 #[.string ⟨s.toArray⟩] w fun e w' => e = .returned (.int .i64 ((linesM s).length : Int)) ∧ Below w.heap.size w w' := by
  refine (callsIn_wide (n := 9)).1 ?_
  refine callsIn_of_wp_marks Tryd.func29 rfl trivial ?_ rfl
  simp only [Tryd.ntmps29, List.size_toArray, List.length_cons, List.length_nil, Nat.reduceAdd, Nat.reduceSub, Array.replicate_succ, Array.replicate_zero, List.push_toArray, List.append_toArray, List.nil_append, List.cons_append]
  have HM := hid hm
  clear hm
  gi_wp2
  refine ⟨trivial, ?_⟩
  refine (callsIn_wide.2 (lines_any ⟨s.toArray⟩ _)).mono ?_
  rintro e w1 ⟨rfl, rfl⟩
  gi_wp2
  obtain ⟨w3, hw3⟩ : ∃ w3, (w.alloc (.cells #[.int .i64 0] 3)).alloc (.cells #[.string ⟨s.toArray⟩] 9) = w3 := ⟨_, rfl⟩
  have hb3 : Below w.heap.size w w3 := by rw [← hw3]; exact (((Below.refl _ _).alloc (Nat.le_refl _) _).alloc (by simp) _)
  have hs3 : w3.heap.size = w.heap.size + 2 := by rw [← hw3]; simp
  have c0 : w3.cell? ⟨w.heap.size, 0, none⟩ = some (.int .i64 0) := by rw [← hw3, cell_al, if_neg (by simp), cell_al, if_pos rfl]; rfl
  have c1 : w3.cell? ⟨w.heap.size + 1, 0, none⟩ = some (.string ⟨s.toArray⟩) := by rw [← hw3, cell_al, if_pos (by simp)]; rfl
  have f0 : w3.frozen? ⟨w.heap.size, 0, none⟩ = false := by rw [← hw3, frozen?_alloc_cells, frozen?_alloc_cells]; simp [World.frozen?]
  have f1 : w3.frozen? ⟨w.heap.size + 1, 0, none⟩ = false := by rw [← hw3, frozen?_alloc_cells, frozen?_alloc_cells]; simp [World.frozen?]
  have C0 := hid c0; have C1 := hid c1; have F1 := hid f1; have F0 := hid f0; have HB3 := hid hb3; have HS3 := hid hs3
  clear c0 c1 f1 f0 hb3 hs3
  rw [hw3]
  refine wp_range_lines (by omega) (w.heap.size + 1) m s hs rfl rfl (CI w w.heap.size s) (fun _ _ => False) (fun n t => clo_CI _ _ _ _ _) (clo_pure _) ?im (fun k => k = w.heap.size + 1) ?f0 rfl C1.out F1.out ?h0 ?a1 ?assign ?body ?done ?stop
  case im => (rintro n t F W ⟨⟨hb, _⟩, _⟩; exact (hb.cell (p := ⟨3, 0, none⟩) (cell_size HM.out)).trans HM.out)
  case f0 => (rintro k rfl; have := HS3.out; omega)
  case h0 => exact ⟨⟨HB3.out, fun k hk => by omega⟩, ⟨fun h => by omega, C0.out, F0.out⟩, Nat.le_refl _, by omega⟩
  case assign =>
    intro l n v W K hK
    gi_wp2
    exact hK
  case done =>
    rintro D n W hD ⟨⟨hb, _⟩, ⟨_, hc, hf⟩, hn1, hn⟩ hk hdef
    rw [linesM_nil] at hn
    have hn2 : (n : Int) - 1 = ((linesM s).length : Int) := by simp at hn; omega
    rw [hn2] at hc
    have HDEF := hid hdef; have HB := hid hb
    clear hb hdef hn hn2 hn1 hk hf
    gi_wp2
    refine ⟨by simp, .inl ⟨_, _, rfl, run_takeDeferred HDEF.out, ?_⟩⟩
    refine ⟨_, by simp [results, Tryd.results29, go_sem], rfl, ?_⟩
    have := HB3.out.size
    exact HB.out.grown (grownBy_putObj' _ D (.deferred none)) HB.out.size (fun k e => by cases e; omega)
  case stop => exact fun _ _ _ h => h.elim
  case body =>
    rintro l n t F W v ⟨r, hr⟩ ⟨ho, ⟨hnf, hc, hf⟩, hn1, hn⟩ hB hFF htn _ hnt _
    have HO := hid ho; have HN := hid hn; have HNF := hid hnf; have HC := hid (And.intro hc hf); have HTN := hid htn; have HN1 := hid hn1
    have hw : IntKind.i64.wrap ((n : Int) - 1 + 1) = (n : Int) := by rw [show (n : Int) - 1 + 1 = n by omega]; exact IntWalk.i64_in _ (by omega)
    clear ho hn hnf hB hFF hr r
    gi_wp2
    refine ⟨Kept.setCell _ _ _ _ HNF.out, ⟨HO.out.1.setCell (p := ⟨w.heap.size, 0, none⟩) (Nat.le_refl _) _, HO.out.2⟩, ⟨HNF.out, ?_, ?_⟩, by omega, ?_⟩
    · rw [show (((n + 1 : Nat) : Int) - 1) = (n : Int) by omega]
      exact cell_setCell_same HC.out.1
    · rw [World.frozen?_setCell]; exact HC.out.2
    · have := HN.out
      rw [linesM_cons HTN.out, List.length_cons] at this
      omega

end Go.Proofs.YtfllhhgnflpagaaDoor
