/-
  Package muldiv: what Div carries.
-/
import Derived.Test.YtngimdbjcelkeaaMd6
namespace Go.Proofs.Ytngimdbjcelkeaa
set_option linter.unusedSimpArgs false
set_option linter.unusedVariables false
open Go.RowKit Go.Shelf

/-- What Div leaves: two words. -/
def DivP (w0 : World) (bb n : Nat) (vin vval : Value) (V K : Nat) (w : World) (σ : Nat → Bool) (F : Form) (qs rs : List Bool) (dv dc : Nat) (e : Ending) (w' : World) : Prop :=
  ∃ v1 z1 v2 z2 σ' F', e = .returned (.tuple #[v1, v2, .int .i64 0]) ∧ Bas w0 bb n vin vval (V + dv) (K + dc) w' σ' F' ∧ Ints (Away bb w') w' v1 z1 ∧ LitsAre σ' F' z1 qs ∧ Ints (Away bb w') w' v2 z2 ∧ LitsAre σ' F' z2 rs ∧ FrB bb w w' ∧ Ext n σ F σ' F' dv dc

/-- A word of literals does not lie in a block that holds a 0. -/
theorem Ints.off {R : Nat → Prop} {w : World} {v : Value} {zs : List Int} {Q m i : Nat} {cs : List Int} {t : TypeId} (h : Ints R w v zs) (hz : zs.length = m) (hm : 1 ≤ m) (hn : ∀ x ∈ zs, x ≠ 0) (hQ : w.heap[Q]? = some (.cells (cs.map (Value.int .i64)).toArray t (0, 0))) (hl : cs.length = m) (hi : i < m) (h0 : cs[i]'(by omega) = 0) :
    Ints (fun k => R k ∧ k ≠ Q) w v zs := by
  obtain ⟨p, c, rfl, h1, h2, h3, hr⟩ := h.op
  obtain ⟨b, off, rfl, hR, hc⟩ := hr.atI 0 (by omega)
  have hne : b ≠ Q := by
    rintro rfl
    have hlast := hc (m - 1) (by omega)
    rw [cell_of_cells hQ] at hlast
    have hlt : off + (m - 1) < cs.length := by
      have := (Array.getElem?_eq_some_iff.1 hlast).1
      simpa using this
    have ho : off = 0 := by omega
    subst ho
    have hii := hc i (by omega)
    rw [cell_of_cells hQ, Nat.zero_add] at hii
    simp only [List.getElem?_toArray, List.getElem?_map, List.getElem?_eq_getElem (show i < cs.length by omega), Option.map_some, Option.some.injEq, Value.int.injEq, true_and] at hii
    exact hn _ (List.getElem_mem (show i < zs.length by omega)) (hii ▸ h0)
  exact ⟨_, c, by rw [List.length_map], by rw [List.length_map]; exact h1, h2, by rw [List.length_map]; exact h3, .inr ⟨b, off, rfl, ⟨hR, hne⟩, fun j hj => by rw [hc j (by simpa using hj)]; simp⟩⟩

/-- Both blocks of Div; k literals of the rest are set. -/
structure DivA (w0 w : World) (bb n : Nat) (vin vval : Value) (V K : Nat) (Q R m k : Nat) (wr : World) (σ : Nat → Bool) (F : Form) : Prop where
  bas : Bas w0 bb n vin vval V K wr σ F
  frw : FrB bb w wr
  q : Own bb wr Q (.cells ((List.replicate m (0 : Int)).map (Value.int .i64)).toArray 3 (0, 0))
  r : Own bb wr R (.cells ((List.replicate k (-1 : Int) ++ List.replicate (m - k) 0).map (Value.int .i64)).toArray 3 (0, 0))
  ne : R ≠ Q
  w1 : w.heap.size ≤ Q
  w2 : w.heap.size ≤ R
  w3 : w0.heap.size ≤ w.heap.size
  ci : Ints (Away bb w) w vin (insM n)
  cv : Bools (Away bb w) w vval (valsM n σ)

/-- t bits of the dividend are done. -/
structure DivL (w0 w : World) (bb n : Nat) (vin vval : Value) (V K : Nat) (σ0 : Nat → Bool) (F0 : Form) (Q m : Nat) (b x : List Bool) (s : Nat) (zq : List Int) (vr : Value) (zr : List Int) (wr : World) (σ : Nat → Bool) (F : Form) : Prop where
  bas : Bas w0 bb n vin vval (V + (m - s) * (6 * m + 1)) (K + (m - s) * (36 * m + 6)) wr σ F
  ext : Ext n σ0 F0 σ F ((m - s) * (6 * m + 1)) ((m - s) * (36 * m + 6))
  frw : FrB bb w wr
  q : Own bb wr Q (.cells ((List.replicate s (0 : Int) ++ zq).map (Value.int .i64)).toArray 3 (0, 0))
  zl : zq.length = m - s
  lq : LitsAre σ F zq (divB b m (x.drop s)).1
  ir : Ints (fun k => Away bb wr k ∧ k ≠ Q) wr vr zr
  lr : LitsAre σ F zr (divB b m (x.drop s)).2
  w1 : w.heap.size ≤ Q
  w3 : w0.heap.size ≤ w.heap.size
  ci : Ints (Away bb w) w vin (insM n)
  cv : Bools (Away bb w) w vval (valsM n σ)

section
variable {w0 w wr : World} {bb n V K Q R m k s : Nat} {vin vval vr : Value} {σ σ0 : Nat → Bool} {F F0 : Form} {b x : List Bool} {zq zr : List Int}
theorem DivA.store (h : DivA w0 w bb n vin vval V K Q R m k wr σ F) (hk : k < m) : DivA w0 w bb n vin vval V K Q R m (k + 1) (wr.setCell ⟨R, k, none⟩ (.int .i64 (-1))) σ F := by
  obtain ⟨h1, h2, h3⟩ := h.bas.st.c.b.far h.r.1 k (.int .i64 (-1))
  have hrn : ∀ q, q ≠ R → (wr.setCell ⟨R, k, none⟩ (.int .i64 (-1))).heap[q]? = wr.heap[q]? := fun q hq => Below.heap_setCell _ _ _ _ hq
  refine ⟨h.bas.store h.r.1 h.frw h.ci h.cv h.w3 h.w2 k _, FrB.store h.frw h.bas.st.c.b h.r.1 h.w2 k _, ⟨h3 _ h.q.1, (hrn Q (Ne.symm h.ne)).trans h.q.2⟩, ⟨h3 _ h.r.1, ?_⟩, h.ne, h.w1, h.w2, h.w3, h.ci, h.cv⟩
  rw [heap_set_same h.r.2]
  congr 2
  rw [List.setIfInBounds_toArray]
  congr 1
  have e : List.replicate (m - k) (0 : Int) = 0 :: List.replicate (m - (k + 1)) 0 := by
    rw [← List.replicate_succ]; congr 1; omega
  rw [e, List.map_append, List.map_cons, List.set_append_right _ _ (by simp), List.length_map, List.length_replicate, Nat.sub_self, List.set_cons_zero, List.replicate_succ']
  simp
/-- The rest is zero: the loop over the dividend begins. -/
theorem DivA.go (h : DivA w0 w bb n vin vval V K Q R m m wr σ F) (hm : 1 ≤ m) (h64 : m ≤ 64) (hx : x.length = m) : DivL w0 w bb n vin vval V K σ F Q m b x m [] (.slice (some ⟨R, 0, none⟩) m m) (List.replicate m (-1)) wr σ F := by
  have hr := h.r.2
  rw [Nat.sub_self, List.replicate_zero, List.append_nil] at hr
  have hd : x.drop m = [] := by rw [List.drop_eq_nil_iff]; omega
  refine ⟨by rw [Nat.sub_self, Nat.zero_mul, Nat.zero_mul]; exact h.bas, by rw [Nat.sub_self, Nat.zero_mul, Nat.zero_mul]; exact Ext.refl h.bas.st.c.good 0 0, h.frw, ⟨h.q.1, by rw [List.append_nil]; exact h.q.2⟩, by rw [Nat.sub_self]; rfl, ?_, Ints.whole (by rw [List.length_replicate]) hr ⟨h.r.1, h.ne⟩ (by rw [List.length_replicate]; omega), ?_, h.w1, h.w3, h.ci, h.cv⟩
  · rw [hd]; exact ⟨(fun x hx => by cases hx), rfl⟩
  · rw [hd]
    refine ⟨fun x hx => by rw [List.eq_of_mem_replicate hx]; exact ok_neg h.bas.st.c.good.ok1, ?_⟩
    rw [List.map_replicate, h.bas.st.c.good.tm1]; rfl

/-- One more bit. -/
theorem DivL.next {w' : World} {z : Int} {v : Value} {zs : List Int} {σ' : Nat → Bool} {F' : Form} {hs : s < x.length} (h : DivL w0 w bb n vin vval V K σ0 F0 Q m b x (s + 1) zq vr zr wr σ F) (hm : s + 1 ≤ m) (h64 : m ≤ 64) (hb : b.length = m)
    (hB : Bas w0 bb n vin vval (V + (m - (s + 1)) * (6 * m + 1) + (6 * m + 1)) (K + (m - (s + 1)) * (36 * m + 6) + (36 * m + 6)) w' σ' F') (hi : Ints (Away bb w') w' v zs) (hl : LitsAre σ' F' zs (stepB b (divB b m (x.drop (s + 1))).2 x[s]).2)
    (hz : LitIs σ' F' z (stepB b (divB b m (x.drop (s + 1))).2 x[s]).1) (hf : FrB bb wr w') (hx : Ext n σ F σ' F' (6 * m + 1) (36 * m + 6)) :
    DivL w0 w bb n vin vval V K σ0 F0 Q m b x s (z :: zq) v zs (w'.setCell ⟨Q, s, none⟩ (.int .i64 z)) σ' F' := by
  have hQ := h.q.fr hf
  have e1 : m - s = (m - (s + 1)) + 1 := by omega
  have hd : x.drop s = x[s] :: x.drop (s + 1) := List.drop_eq_getElem_cons hs
  have hlen : zs.length = m := by
    rw [hl.len, stepB_len _ _ _ (by rw [(divB_len b m (by omega) hb _).2]; omega) (by rw [(divB_len b m (by omega) hb _).2, hb]), (divB_len b m (by omega) hb _).2]
  have hoff : Ints (fun k => Away bb w' k ∧ k ≠ Q) w' v zs := hi.off hlen (by omega) (fun y hy => lit_ne (hl.1 y hy)) hQ.2 (by rw [List.length_append, List.length_replicate, h.zl]; omega) (i := s) (by omega)
    (by rw [List.getElem_append_left (by rw [List.length_replicate]; omega), List.getElem_replicate])
  have hcv : Bools (Away bb w) w vval (valsM n σ') := by rw [valsM_ext fun v hv => hx.old v (by have := h.bas.st.c.good.inp; omega)]; exact h.cv
  have hfw := h.frw.trans hf
  obtain ⟨h1, h2, h3⟩ := hB.st.c.b.far hQ.1 s (.int .i64 z)
  have hrn : ∀ q, q ≠ Q → (w'.setCell ⟨Q, s, none⟩ (.int .i64 z)).heap[q]? = w'.heap[q]? := fun q hq => Below.heap_setCell _ _ _ _ hq
  have hext := h.ext.trans hx (Nat.le_refl _) (Nat.le_refl _)
  refine ⟨?_, ?_, FrB.store hfw hB.st.c.b hQ.1 h.w1 s _, ⟨h3 _ hQ.1, ?_⟩, by rw [List.length_cons, h.zl]; omega, ?_, hoff.keep fun k hk => ⟨⟨h3 k hk.1, hk.2⟩, hrn k hk.2⟩, ?_, h.w1, h.w3, h.ci, hcv⟩
  · refine (hB.store hQ.1 hfw h.ci hcv h.w3 h.w1 s _).mono ?_ ?_ <;> rw [e1, Nat.add_mul, Nat.one_mul] <;> omega
  · refine ⟨hext.good, hext.old, hext.v0, ?_, hext.c0, ?_⟩
    · have := hext.v1; rw [e1, Nat.add_mul, Nat.one_mul]; omega
    · have := hext.c1; rw [e1, Nat.add_mul, Nat.one_mul]; omega
  · rw [heap_set_same hQ.2]
    congr 2
    rw [List.setIfInBounds_toArray]
    congr 1
    rw [List.replicate_succ', List.append_assoc, List.map_append, List.set_append_right _ _ (by simp), List.length_map, List.length_replicate, Nat.sub_self]
    simp
  · rw [hd, divB_cons]
    exact (h.lq.ext hx).cons hz
  · rw [hd, divB_cons]
    exact hl
end

end Go.Proofs.Ytngimdbjcelkeaa
