/-
  Lines of words in memory: read, and stored into. No program in sight.
-/
import Derived.Test.YtgldgkaigomceaaDoorTkF
namespace Go.Proofs.YtgldgkaigomceaaDoor
set_option linter.unusedSimpArgs false
set_option linter.unusedVariables false
open Go.RowKit

/-- Lines of words in rows of their own, the rows' slices known. -/
def WLV (B eo : Nat) (w : World) (v : Value) (vs : List Value) (out : List (List Wd)) : Prop := w.ownsRow B eo 1 v out.length vs ∧ vs.length = out.length ∧ Rw B w (fun k => v.ownBlock ≠ some k) vs out
theorem WLS.opn {B eo : Nat} {w : World} {v : Value} {out : List (List Wd)} (h : WLS B eo w v out) : ∃ vs, WLV B eo w v vs out := h
theorem WLV.cls {B eo : Nat} {w : World} {v : Value} {vs : List Value} {out : List (List Wd)} (h : WLV B eo w v vs out) : WLS B eo w v out := ⟨vs, h⟩

theorem wflat_set : ∀ (ws : List Wd) (k f : Nat) (hk : k < ws.length) (hf : f < 3) (x' : Wd) (u : Value) (h : wcells x' = (wcells ws[k]).set f u), (wflat ws).set (k * 3 + f) u = wflat (ws.set k x')
  | [], k, f, hk, _, _, _, _ => absurd hk (by simp)
  | x :: r, 0, f, _, hf, x', u, h => by
    simp only [wflat, List.flatMap_cons, List.set_cons_zero]
    rw [List.getElem_cons_zero] at h
    rw [h, List.set_append_left _ _ (by simp [wcells]; omega)]
    simp
  | x :: r, k + 1, f, hk, hf, x', u, h => by
    have := wflat_set r k f (by simpa using hk) hf x' u (by simpa using h)
    simp only [wflat, List.flatMap_cons, List.set_cons_succ] at this ⊢
    rw [List.set_append_right _ _ (by simp [wcells]; omega), show (k + 1) * 3 + f - (wcells x).length = k * 3 + f by simp [wcells]; omega, this]

theorem WLV.row {B eo : Nat} {w : World} {v : Value} {vs : List Value} {out : List (List Wd)} (h : WLV B eo w v vs out) (i : Nat) (hi : i < vs.length) :
    ∃ g cap, v = .slice (some ⟨g, 0, none⟩) out.length cap ∧ B ≤ g ∧ ∀ j (hj : j < vs.length), w.cell? ⟨g, j, none⟩ = some vs[j] := by
  obtain ⟨⟨hl, h1⟩, h2, h3⟩ := h
  rcases h1 with ⟨rfl, h0⟩ | ⟨g, cap, cur, rfl, hb, hg, hnc, hcm, hcs, ht⟩
  · omega
  · refine ⟨g, cap, rfl, hb, fun j hj => ?_⟩
    rw [cell_of_row w g j cur eo (0, 0) hg]
    have e1 : (cur.toList.take (out.length * 1))[j]? = some vs[j] := by rw [ht]; exact List.getElem?_eq_getElem hj
    rw [List.getElem?_take] at e1
    split at e1
    · simpa using e1
    · cases e1

theorem WLV.word {B eo : Nat} {w : World} {v : Value} {vs : List Value} {out : List (List Wd)} (h : WLV B eo w v vs out) (i : Nat) (hi : i < out.length) (hi' : i < vs.length) :
    ∃ p c, vs[i] = .slice p out[i].length c ∧ out[i].length ≤ c ∧ c ≤ maxLen ∧ ∀ k (hk : k < out[i].length), ∃ b off, p = some ⟨b, off, none⟩ ∧ B ≤ b ∧ Soft w b ∧ ∀ j (hj : j < out[i].length),
      w.cell? ⟨b, off + j * 3, none⟩ = some (.string ⟨out[i][j].1.toArray⟩) ∧ w.cell? ⟨b, off + j * 3 + 1, none⟩ = some (.int .i64 (out[i][j].2.1 : Int)) ∧ w.cell? ⟨b, off + j * 3 + 2, none⟩ = some (.int .i64 (out[i][j].2.2 : Int)) := by
  obtain ⟨h1, h2, h3, h4, h5⟩ := h
  obtain ⟨p, c, e, hl, hm, hr⟩ := h3 i hi hi'
  refine ⟨p, c, e, hl, hm, fun k hk => ?_⟩
  obtain ⟨b, off, e2, hR, hc⟩ := hr.atW k hk
  obtain ⟨q1, q2, q3⟩ := h4 _ (List.getElem_mem hi') b hR
  exact ⟨b, off, e2, q1, q2, hc⟩

theorem RowR.set {R : Nat → Prop} {w : World} {b off : Nat} {cs : List Value} (h : RowR R w (some ⟨b, off, none⟩) cs) (j : Nat) (hj : j < cs.length) (u : Value) : RowR R (w.setCell ⟨b, off + j, none⟩ u) (some ⟨b, off, none⟩) (cs.set j u) := by
  obtain ⟨b', off', e, hR, hc⟩ := h.at j hj
  cases e
  refine .inr ⟨b, off, rfl, hR, fun i hi => ?_⟩
  rw [List.length_set] at hi
  by_cases hij : j = i
  · subst hij
    rw [World.cell?_setCell_same _ _ _ (hc j hj)]
    simp
  · rw [World.cell?_setCell_other _ _ _ _ (fun e => hij (by injection e; omega)), hc i hi, List.getElem_set_ne hij]

theorem pw_ne {vs : List Value} (h : vs.Pairwise (fun a b => ∀ k, a.ownBlock = some k → b.ownBlock ≠ some k)) {i j : Nat} (hi : i < vs.length) (hj : j < vs.length) (hne : i ≠ j) (k : Nat) (hk : vs[i].ownBlock = some k) : vs[j].ownBlock ≠ some k := by
  rw [List.pairwise_iff_getElem] at h
  rcases Nat.lt_or_ge i j with hij | hij
  · exact h i j hi hj hij k hk
  · exact fun e => h j i hj hi (by omega) k e hk

theorem WLV.set {B eo : Nat} {w : World} {v : Value} {vs : List Value} {out : List (List Wd)} (h : WLV B eo w v vs out) (i : Nat) (hi : i < out.length) (hi' : i < vs.length) (k : Nat) (hk : k < out[i].length) (f : Nat) (hf : f < 3) {b off len c : Nat}
    (hv : vs[i] = .slice (some ⟨b, off, none⟩) len c) (u : Value) (x' : Wd) (hx : wcells x' = (wcells out[i][k]).set f u) : WLV B eo (w.setCell ⟨b, off + (k * 3 + f), none⟩ u) v vs (out.set i (out[i].set k x')) := by
  obtain ⟨h1, h2, h3, h4, h5⟩ := h
  have hob : vs[i].ownBlock = some b := by rw [hv]; rfl
  obtain ⟨q1, q2, q3⟩ := h4 _ (List.getElem_mem hi') b hob
  have hf' : ∀ j, j ≠ b → (w.setCell ⟨b, off + (k * 3 + f), none⟩ u).heap[j]? = w.heap[j]? := fun j hj => Below.heap_setCell _ _ _ _ hj
  have hsoft : Soft (w.setCell ⟨b, off + (k * 3 + f), none⟩ u) b := by
    obtain ⟨cs, t, hh⟩ := q2
    exact ⟨_, t, heap_setCell_at _ _ hh⟩
  refine ⟨by rw [List.length_set]; exact owns_keepG h1 fun j hj => hf' j fun e => q3 (by rw [← e]; exact hj), by rw [List.length_set]; exact h2, fun j hj hj' => ?_, fun x hx k' hk' => ?_, h5⟩
  · rw [List.length_set] at hj
    by_cases hij : i = j
    · subst hij
      rw [List.getElem_set_self]
      obtain ⟨p, c', e, hl, hm, hr⟩ := h3 i hi hj'
      have e' : (Value.slice p out[i].length c') = .slice (some ⟨b, off, none⟩) len c := e.symm.trans hv
      cases e'
      refine ⟨_, _, by rw [hv, List.length_set], by rw [List.length_set]; exact hl, hm, ?_⟩
      rw [← wflat_set _ k f hk hf x' u hx]
      exact hr.set (k * 3 + f) (by rw [wflat_len]; omega) u
    · rw [List.getElem_set_ne hij]
      refine (h3 j hj hj').keep fun k' hk' => ⟨hk', hf' k' fun e => ?_⟩
      subst e
      exact pw_ne h5 hi' hj' hij k' hob hk'
  · obtain ⟨a1, a2, a3⟩ := h4 x hx k' hk'
    refine ⟨a1, ?_, a3⟩
    by_cases e : k' = b
    · subst e; exact hsoft
    · exact a2.keep (hf' k' e)

theorem WLV.keep {B eo : Nat} {w w' : World} {v : Value} {vs : List Value} {out : List (List Wd)} (h : WLV B eo w v vs out) (hf : ∀ k, B ≤ k → Soft w k → w'.heap[k]? = w.heap[k]?) : WLV B eo w' v vs out :=
  ⟨owns_keepG h.1 fun j hj => hf j (h.1.lt j hj).1 (owns_soft h.1 j hj), h.2.1, h.2.2.keep fun k hb hs hx => ⟨hf k hb hs, hx⟩⟩
theorem WLS.keep {B eo : Nat} {w w' : World} {v : Value} {out : List (List Wd)} (h : WLS B eo w v out) (hf : ∀ k, B ≤ k → Soft w k → w'.heap[k]? = w.heap[k]?) : WLS B eo w' v out := let ⟨vs, h⟩ := h; ⟨vs, WLV.keep h hf⟩

/-- The same number of lines, of words in each. -/
def Shp (a b : List (List Wd)) : Prop := a.map List.length = b.map List.length
theorem Shp.refl (a : List (List Wd)) : Shp a a := rfl
theorem Shp.trans {a b c : List (List Wd)} (h : Shp a b) (k : Shp b c) : Shp a c := Eq.trans h k
theorem Shp.len {a b : List (List Wd)} (h : Shp a b) : a.length = b.length := by
  have := congrArg List.length h
  simpa using this
theorem Shp.at {a b : List (List Wd)} (h : Shp a b) (i : Nat) (ha : i < a.length) (hb : i < b.length) : a[i].length = b[i].length := by
  have : (a.map List.length)[i]'(by simpa using ha) = (b.map List.length)[i]'(by simpa using hb) := by
    simp only [show a.map List.length = b.map List.length from h]
  simpa using this
theorem Shp.set (a : List (List Wd)) (i : Nat) (ha : i < a.length) (ws : List Wd) (h : ws.length = a[i].length) : Shp (a.set i ws) a := by
  unfold Shp
  apply List.ext_getElem
  · simp
  · intro j hj hj'
    simp only [List.getElem_map]
    by_cases e : i = j
    · subst e; rw [List.getElem_set_self]; exact h
    · rw [List.getElem_set_ne e]

theorem WLV.zero {B eo : Nat} {w : World} {v : Value} {vs : List Value} {out : List (List Wd)} (h : WLV B eo w v vs out) (i : Nat) (hi : i < out.length) (hi' : i < vs.length) (k : Nat) (hk : k < out[i].length) {b off len c : Nat}
    (hv : vs[i] = .slice (some ⟨b, off, none⟩) len c) : ∃ out', WLV B eo (((w.setCell ⟨b, off + k * 3, none⟩ (.string ⟨#[]⟩)).setCell ⟨b, off + k * 3 + 1, none⟩ (.int .i64 0)).setCell ⟨b, off + k * 3 + 2, none⟩ (.int .i64 0)) v vs out' ∧ Shp out' out := by
  have h1 := h.set i hi hi' k hk 0 (by omega) hv (.string ⟨#[]⟩) ([], out[i][k].2) rfl
  have s1 : Shp _ out := Shp.set out i hi (out[i].set k ([], out[i][k].2)) (by simp)
  generalize out.set i (out[i].set k ([], out[i][k].2)) = o1 at *
  have hi1 : i < o1.length := by have := s1.len; omega
  have hk1 : k < o1[i].length := by have := s1.at i hi1 hi; omega
  have h2 := h1.set i hi1 hi' k hk1 1 (by omega) hv (.int .i64 0) (o1[i][k].1, 0, o1[i][k].2.2) rfl
  have s2 : Shp _ o1 := Shp.set o1 i hi1 (o1[i].set k (o1[i][k].1, 0, o1[i][k].2.2)) (by simp)
  generalize o1.set i (o1[i].set k (o1[i][k].1, 0, o1[i][k].2.2)) = o2 at *
  have hi2 : i < o2.length := by have := s2.len; omega
  have hk2 : k < o2[i].length := by have := s2.at i hi2 hi1; omega
  have h3 := h2.set i hi2 hi' k hk2 2 (by omega) hv (.int .i64 0) (o2[i][k].1, o2[i][k].2.1, 0) rfl
  have s3 : Shp _ o2 := Shp.set o2 i hi2 (o2[i].set k (o2[i][k].1, o2[i][k].2.1, 0)) (by simp)
  exact ⟨_, h3, s3.trans (s2.trans s1)⟩
end Go.Proofs.YtgldgkaigomceaaDoor
